/- Parts of the proofs of the statement, joined and made short: WF WG WG2 WH WP WQ WR WS WT WU WV WW WX WY WZ X1 X2 X3 X4 X5 X6 X7. -/
import Derived.Test.YtgaeajfoiigbkaaGreatDoorP22
import Derived.Test.YtgaeajfoiigbkaaGreatDoorP25
set_option linter.unusedVariables false
set_option linter.unusedSimpArgs false
set_option linter.unusedSectionVars false
set_option maxRecDepth 10000
set_option maxHeartbeats 4000000
namespace Go.Am.W
open Go.Proofs Go.Rc
def at' (es : List Evt) (i : Nat) : Evt:=es.getD i default
theorem at_of {es : List Evt} {n : Nat} {x : Evt} (h : es[n]? = some x) : at' es n = x:=by simp [at',List.getD_eq_getElem?_getD,h]
theorem at_get {es : List Evt} {n : Nat} (h : n < es.length) : es[n]? = some (at' es n):=by simp [at',List.getD_eq_getElem?_getD,h]
def BQ (live : List Nat) (slot : Nat) (fin : Env) (o : Option Nat) (p : AEx × St) : Prop :=
 match o with
 | some i => p.1 = .ret ∧ hd [slot] [] p.2 = some ⟨[(slot,.dat (.int .i64 i))],[]⟩
 | none => p.1 = .exit 0 ∧ hd live [] p.2 = some ⟨fin,[]⟩
theorem buf_loop74 (es : List Evt) (a t : Int) (hl : es.length < 1000000) : ∀ (n : Nat) (s : St),n ≤ es.length →
  hd [0,2,3,9] [] s = some ⟨[(0,.dat (.sl (es.map ED))),(2,.dat (.int .i64 a)),(3,.dat (.int .i64 t)),(9,.dat (.int .i64 ((n : Int) - 1)))],[]⟩ →
  Ev (loopLim (exec KR l74_0) s) (BQ [] 8 [] (lst (isBuf (at' es) a t) n))
 | 0,s,hn,hs => by
  apply ev_loop
  simp [hs,lst,BQ]
 | n + 1,s,hn,hs => by
  obtain ⟨x,hx⟩ : ∃ x,es[n]? = some x:=⟨_,at_get (by omega)⟩
  have hat:=at_of hx
  have hw : IntKind.wrap .i64 ((n : Int) - 1) = n - 1:=wrap_i64 (by omega) (by omega)
  obtain ⟨ag,idx,kind,obj,mux,ent,ord,rd,wr⟩:=x
  by_cases h : kind = 3 ∧ ag = a ∧ ent = t
  ·obtain ⟨rfl,rfl,rfl⟩:=h
   have hb : isBuf (at' es) ag ent n = true:=by simp [isBuf,hat]
   simp only [lst,hb,if_true]
   apply ev_loop
   simp [hs,hx,ED_mk,BQ]
  ·have hb : isBuf (at' es) a t n = false:=by
    simp only [isBuf,hat]
    simp
    intro h1 h2 h3
    exact h ⟨h1,h2,h3⟩
   simp only [lst,hb,Bool.false_eq_true,if_false]
   have ih:=fun s => buf_loop74 es a t hl n s (by omega)
   generalize BQ [] 8 [] (lst (isBuf (at' es) a t) n) = Q at ih ⊢
   apply ev_loop
   by_cases h1 : kind = 3
   ·subst h1
    by_cases h2 : ag = a
    ·subst h2
     have h3 : ¬ ent = t:=fun h3 => h ⟨rfl,rfl,h3⟩
     simp [hs,hx,ED_mk,h3,hw]
     exact ih _ (by simp [hs,hx,ED_mk,h3,hw])
    ·simp [hs,hx,ED_mk,h2,hw]
     exact ih _ (by simp [hs,hx,ED_mk,h2,hw])
   ·simp [hs,hx,ED_mk,h1,hw]
    exact ih _ (by simp [hs,hx,ED_mk,h1,hw])
theorem run74 (es : List Evt) (n : Nat) (a t : Int) (hl : es.length < 1000000) (hn : n ≤ es.length) : KR 74 [.dat (.sl (es.map ED)),.dat (.int .i64 n),.dat (.int .i64 a),.dat (.int .i64 t)] [] = some (.dat (.int .i64 (bufd (at' es) n a t (-1))),[]):=by
 refine callT_ev (fn:=fn74) rfl rfl ?_
 have hw : IntKind.wrap .i64 ((n : Int) - 1) = n - 1:=wrap_i64 (by omega) (by omega)
 simp [runFun_eq,hw]
 simp only [ev_bnd_iff]
 refine (buf_loop74 es a t hl n _ hn (by simp [hw])).mono ?_
 rintro ⟨x,s⟩ hq
 unfold bufd
 cases hb : lst (isBuf (at' es) a t) n with
 | none =>
  rw [hb] at hq
  obtain ⟨rfl,hs⟩:=hq
  simp [hs]
 | some i =>
  rw [hb] at hq
  obtain ⟨rfl,hs⟩:=hq
  simp [endK_hd (res:=[.t 8]) (live:=[8]) (by simp [AR.slot]) hs]
theorem buf_loop79 (es : List Evt) (a t d : Int) (hl : es.length < 1000000) : ∀ (n : Nat) (s : St),n ≤ es.length →
  hd [0,2,3,4,11] [] s = some ⟨[(0,.dat (.sl (es.map ED))),(2,.dat (.int .i64 a)),(3,.dat (.int .i64 t)),(4,.dat (.int .i64 d)),(11,.dat (.int .i64 ((n : Int) - 1)))],[]⟩ →
  Ev (loopLim (exec KR l79_0) s) (BQ [4] 10 [(4,.dat (.int .i64 d))] (lst (isBuf (at' es) a t) n))
 | 0,s,hn,hs => by
  apply ev_loop
  simp [hs,lst,BQ]
 | n + 1,s,hn,hs => by
  obtain ⟨x,hx⟩ : ∃ x,es[n]? = some x:=⟨_,at_get (by omega)⟩
  have hat:=at_of hx
  have hw : IntKind.wrap .i64 ((n : Int) - 1) = n - 1:=wrap_i64 (by omega) (by omega)
  obtain ⟨ag,idx,kind,obj,mux,ent,ord,rd,wr⟩:=x
  by_cases h : kind = 3 ∧ ag = a ∧ ent = t
  ·obtain ⟨rfl,rfl,rfl⟩:=h
   have hb : isBuf (at' es) ag ent n = true:=by simp [isBuf,hat]
   simp only [lst,hb,if_true]
   apply ev_loop
   simp [hs,hx,ED_mk,BQ]
  ·have hb : isBuf (at' es) a t n = false:=by
    simp only [isBuf,hat]
    simp
    intro h1 h2 h3
    exact h ⟨h1,h2,h3⟩
   simp only [lst,hb,Bool.false_eq_true,if_false]
   have ih:=fun s => buf_loop79 es a t d hl n s (by omega)
   generalize BQ [4] 10 [(4,.dat (.int .i64 d))] (lst (isBuf (at' es) a t) n) = Q at ih ⊢
   apply ev_loop
   by_cases h1 : kind = 3
   ·subst h1
    by_cases h2 : ag = a
    ·subst h2
     have h3 : ¬ ent = t:=fun h3 => h ⟨rfl,rfl,h3⟩
     simp [hs,hx,ED_mk,h3,hw]
     exact ih _ (by simp [hs,hx,ED_mk,h3,hw])
    ·simp [hs,hx,ED_mk,h2,hw]
     exact ih _ (by simp [hs,hx,ED_mk,h2,hw])
   ·simp [hs,hx,ED_mk,h1,hw]
    exact ih _ (by simp [hs,hx,ED_mk,h1,hw])
theorem run79 (es : List Evt) (n : Nat) (a t d : Int) (hl : es.length < 1000000) (hn : n ≤ es.length) : KR 79 [.dat (.sl (es.map ED)),.dat (.int .i64 n),.dat (.int .i64 a),.dat (.int .i64 t),.dat (.int .i64 d)] [] = some (.dat (.int .i64 (bufd (at' es) n a t d)),[]):=by
 refine callT_ev (fn:=fn79) rfl rfl ?_
 have hw : IntKind.wrap .i64 ((n : Int) - 1) = n - 1:=wrap_i64 (by omega) (by omega)
 simp [runFun_eq,hw]
 simp only [ev_bnd_iff]
 refine (buf_loop79 es a t d hl n _ hn (by simp [hw])).mono ?_
 rintro ⟨x,s⟩ hq
 unfold bufd
 cases hb : lst (isBuf (at' es) a t) n with
 | none =>
  rw [hb] at hq
  obtain ⟨rfl,hs⟩:=hq
  simp [hs]
 | some i =>
  rw [hb] at hq
  obtain ⟨rfl,hs⟩:=hq
  simp [endK_hd (res:=[.t 10]) (live:=[10]) (by simp [AR.slot]) hs]
end Go.Am.W

set_option maxRecDepth 10000
set_option maxHeartbeats 4000000
namespace Go.Am.W
open Go.Proofs Go.Rc
def InA (es : List Evt) : Prop:=∀ x ∈ es,-9223372036854775808 ≤ x.ag ∧ x.ag < 9223372036854775808
def found (e : Nat → Evt) (o : Int) (n : Nat) : Int :=
 match lst (isWr e o) n with
 | none => -1
 | some w => if (e w).kind = 4 then bufd e w (thr (e w).ag) (e w).ent w else w
def SQ (slot : Nat) (o : Option Nat) (v : Int) (p : AEx × St) : Prop :=
 match o with
 | some _ => p.1 = .ret ∧ ∃ os,hd [slot] [] p.2 = some ⟨[(slot,.dat (.int .i64 v))],os⟩
 | none => p.1 = .exit 0 ∧ ∃ os,hd [] [] p.2 = some ⟨[],os⟩
theorem found_s {e : Nat → Evt} {o : Int} {n : Nat} (h : isWr e o n = true) : lst (isWr e o) (n + 1) = some n ∧ found e o (n + 1) = if (e n).kind = 4 then bufd e n (thr (e n).ag) (e n).ent n else n:=by
 simp [lst,h,found]
theorem found_n {e : Nat → Evt} {o : Int} {n : Nat} (h : isWr e o n = false) : lst (isWr e o) (n + 1) = lst (isWr e o) n ∧ found e o (n + 1) = found e o n:=by
 simp [lst,h,found]
theorem src_loop43 (es : List Evt) (hA : InA es) (hv : es.all vld = true) (hl : es.length < 1000000) (ag0 idx0 kind0 obj0 mux0 ent0 ord0 rd0 wr0 : Int) : ∀ (n : Nat) (s : St),n ≤ es.length →
  hd [0,5,6] [] s = some ⟨[(0,.dat (.sl (es.map ED))),(5,.ref ((6,0),0,0) 0),(6,.dat (.int .i64 ((n : Int) - 1)))],
   [((6,0),.plain (.box [.dat (Nn ag0),.dat (Nn idx0),.dat (Nn kind0),.dat (Nn obj0),.dat (Nn mux0),.dat (Nn ent0),.dat (Nn ord0),.dat (Nn rd0),.dat (Nn wr0)]))]⟩ →
  Ev (loopLim (exec KR l43_0) s) (SQ 4 (lst (isWr (at' es) obj0) n) (found (at' es) obj0 n))
 | 0,s,hn,hs => by
  apply ev_loop
  simp [hs,lst,SQ]
 | n + 1,s,hn,hs => by
  obtain ⟨x,hx⟩ : ∃ x,es[n]? = some x:=⟨_,at_get (by omega)⟩
  have hat:=at_of hx
  have hxm:=List.mem_of_getElem? hx
  have hxv:=List.all_eq_true.1 hv x hxm
  have hxa:=hA x hxm
  have hw : IntKind.wrap .i64 ((n : Int) - 1) = n - 1:=wrap_i64 (by omega) (by omega)
  obtain ⟨ag,idx,kind,obj,mux,ent,ord,rd,wr⟩:=x
  simp only at hxa
  by_cases h1 : kind = 2 ∨ kind = 5 ∨ kind = 4
  ·by_cases h2 : obj = obj0
   ·subst h2
    have hb : isWr (at' es) obj n = true:=by simp [isWr,hat,Evt.writes,h1]
    rw [(found_s hb).1,(found_s hb).2,hat]
    apply ev_loop
    by_cases h4 : kind = 4
    ·subst h4
     simp [hs,hx,ED_mk,run80',hxv,SQ,run81 ag hxa.1,run79 es n _ _ _ hl (by omega)]
    ·have h5 : kind = 2 ∨ kind = 5:=by omega
     rcases h5 with rfl | rfl <;> simp [hs,hx,ED_mk,run80',hxv,SQ]
   ·have hb : isWr (at' es) obj0 n = false:=by simp [isWr,hat,h2]
    rw [(found_n hb).1,(found_n hb).2]
    have ih:=fun s => src_loop43 es hA hv hl ag0 idx0 kind0 obj0 mux0 ent0 ord0 rd0 wr0 n s (by omega)
    generalize SQ 4 (lst (isWr (at' es) obj0) n) (found (at' es) obj0 n) = Q at ih ⊢
    apply ev_loop
    rcases h1 with rfl | rfl | rfl <;> (simp [hs,hx,ED_mk,run80',hxv,h2,hw]; exact ih _ (by simp [hs,hx,ED_mk,run80',hxv,h2,hw]))
  ·have hb : isWr (at' es) obj0 n = false:=by simp [isWr,hat,Evt.writes,h1]
   rw [(found_n hb).1,(found_n hb).2]
   have ih:=fun s => src_loop43 es hA hv hl ag0 idx0 kind0 obj0 mux0 ent0 ord0 rd0 wr0 n s (by omega)
   generalize SQ 4 (lst (isWr (at' es) obj0) n) (found (at' es) obj0 n) = Q at ih ⊢
   apply ev_loop
   simp only [not_or] at h1
   simp [hs,hx,ED_mk,run80',hxv,h1.1,h1.2.1,h1.2.2,hw]
   exact ih _ (by simp [hs,hx,ED_mk,run80',hxv,h1.1,h1.2.1,h1.2.2,hw])
end Go.Am.W

set_option maxRecDepth 10000
set_option maxHeartbeats 4000000
namespace Go.Am.W
open Go.Proofs Go.Rc
theorem bufd_d (e : Nat → Evt) (n : Nat) (a t d : Int) : bufd e n a t d = if 0 ≤ bufd e n a t (-1) then bufd e n a t (-1) else d:=by
 unfold bufd
 cases lst (isBuf e a t) n with
 | none => simp
 | some i => simp
theorem src_loop41 (es : List Evt) (hA : InA es) (hv : es.all vld = true) (hl : es.length < 1000000) (ag0 idx0 kind0 obj0 mux0 ent0 ord0 rd0 wr0 : Int) : ∀ (n : Nat) (s : St),n ≤ es.length →
  hd [0,5,6] [0,5] s = some ⟨[(0,.dat (.sl (es.map ED))),(5,.ref ((6,0),0,0) 0),(6,.dat (.int .i64 ((n : Int) - 1)))],
   [((6,0),.plain (.box [.dat (Nn ag0),.dat (Nn idx0),.dat (Nn kind0),.dat (Nn obj0),.dat (Nn mux0),.dat (Nn ent0),.dat (Nn ord0),.dat (Nn rd0),.dat (Nn wr0)]))]⟩ →
  Ev (loopLim (exec KR l41_0) s) (SQ 4 (lst (isWr (at' es) obj0) n) (found (at' es) obj0 n))
 | 0,s,hn,hs => by
  apply ev_loop
  simp [hs,lst,SQ]
 | n + 1,s,hn,hs => by
  obtain ⟨x,hx⟩ : ∃ x,es[n]? = some x:=⟨_,at_get (by omega)⟩
  have hat:=at_of hx
  have hxm:=List.mem_of_getElem? hx
  have hxv:=List.all_eq_true.1 hv x hxm
  have hxa:=hA x hxm
  have hw : IntKind.wrap .i64 ((n : Int) - 1) = n - 1:=wrap_i64 (by omega) (by omega)
  obtain ⟨ag,idx,kind,obj,mux,ent,ord,rd,wr⟩:=x
  simp only at hxa
  by_cases h1 : kind = 2 ∨ kind = 5 ∨ kind = 4
  ·by_cases h2 : obj = obj0
   ·subst h2
    have hb : isWr (at' es) obj n = true:=by simp [isWr,hat,Evt.writes,h1]
    rw [(found_s hb).1,(found_s hb).2,hat]
    apply ev_loop
    by_cases h4 : kind = 4
    ·subst h4
     simp only [bufd_d (at' es) n (thr ag) ent n,if_true]
     by_cases h5 : 0 ≤ bufd (at' es) n (thr ag) ent (-1)
     ·simp [hs,hx,ED_mk,run75',hxv,SQ,run76 ag hxa.1,run74 es n _ _ hl (by omega),h5]
     ·simp [hs,hx,ED_mk,run75',hxv,SQ,run76 ag hxa.1,run74 es n _ _ hl (by omega),h5]
    ·have h5 : kind = 2 ∨ kind = 5:=by omega
     rcases h5 with rfl | rfl <;> simp [hs,hx,ED_mk,run75',hxv,SQ]
   ·have hb : isWr (at' es) obj0 n = false:=by simp [isWr,hat,h2]
    rw [(found_n hb).1,(found_n hb).2]
    have ih:=fun s => src_loop41 es hA hv hl ag0 idx0 kind0 obj0 mux0 ent0 ord0 rd0 wr0 n s (by omega)
    generalize SQ 4 (lst (isWr (at' es) obj0) n) (found (at' es) obj0 n) = Q at ih ⊢
    apply ev_loop
    rcases h1 with rfl | rfl | rfl <;> (simp [hs,hx,ED_mk,run75',hxv,h2,hw]; exact ih _ (by simp [hs,hx,ED_mk,run75',hxv,h2,hw]))
  ·have hb : isWr (at' es) obj0 n = false:=by simp [isWr,hat,Evt.writes,h1]
   rw [(found_n hb).1,(found_n hb).2]
   have ih:=fun s => src_loop41 es hA hv hl ag0 idx0 kind0 obj0 mux0 ent0 ord0 rd0 wr0 n s (by omega)
   generalize SQ 4 (lst (isWr (at' es) obj0) n) (found (at' es) obj0 n) = Q at ih ⊢
   apply ev_loop
   simp only [not_or] at h1
   simp [hs,hx,ED_mk,run75',hxv,h1.1,h1.2.1,h1.2.2,hw]
   exact ih _ (by simp [hs,hx,ED_mk,run75',hxv,h1.1,h1.2.1,h1.2.2,hw])
theorem src_found (es : List Evt) (i : Nat) : src (at' es) i = if (at' es i).reads = true then (if 0 ≤ (at' es i).ent then bufd (at' es) i (at' es i).ag (at' es i).ent (-1) else found (at' es) (at' es i).obj i) else -2:=rfl
theorem found_none {e : Nat → Evt} {o : Int} {n : Nat} (h : lst (isWr e o) n = none) : found e o n = -1:=by simp [found,h]
theorem run43 (es : List Evt) (hA : InA es) (hv : es.all vld = true) (hl : es.length < 1000000) (i : Nat) (hi : i < es.length) : KR 43 [.dat (.sl (es.map ED)),.dat (.int .i64 i)] [] = some (.dat (.int .i64 (src (at' es) i)),[]):=by
 obtain ⟨x,hx⟩ : ∃ x,es[i]? = some x:=⟨_,at_get hi⟩
 have hat:=at_of hx
 have hxv:=List.all_eq_true.1 hv x (List.mem_of_getElem? hx)
 have hw : IntKind.wrap .i64 ((i : Int) - 1) = i - 1:=wrap_i64 (by omega) (by omega)
 rw [src_found,hat]
 obtain ⟨ag,idx,kind,obj,mux,ent,ord,rd,wr⟩:=x
 refine callT_ev (fn:=fn43) rfl rfl ?_
 by_cases h1 : readsK kind = true
 ·simp only [Evt.reads,h1,if_true]
  by_cases h2 : 0 ≤ ent
  ·simp only [h2,if_true]
   simp [runFun_eq,hx,ED_mk,run78',hxv,h1,h2,run79 es i _ _ _ hl (by omega)]
  ·simp only [h2,if_false]
   simp [runFun_eq,hx,ED_mk,run78',hxv,h1,h2,hw]
   simp only [ev_bnd_iff]
   refine (src_loop43 es hA hv hl ag idx kind obj mux ent ord rd wr i _ (by omega) (by simp [hx,ED_mk,run78',hxv,h1,h2,hw])).mono ?_
   rintro ⟨y,s⟩ hq
   cases hf : lst (isWr (at' es) obj) i with
   | none =>
    rw [hf] at hq
    obtain ⟨rfl,os,hs⟩:=hq
    rw [found_none hf]
    simp [hs]
   | some w =>
    rw [hf] at hq
    obtain ⟨rfl,os,hs⟩:=hq
    simp [endK_hd (res:=[.t 4]) (live:=[4]) (by simp [AR.slot]) hs]
 ·simp only [Evt.reads,h1,if_false]
  simp [runFun_eq,hx,ED_mk,run78',hxv,h1]
theorem run41 (es : List Evt) (hA : InA es) (hv : es.all vld = true) (hl : es.length < 1000000) (i : Nat) (hi : i < es.length) : KR 41 [.dat (.sl (es.map ED)),.dat (.int .i64 i)] [] = some (.dat (.int .i64 (src (at' es) i)),[]):=by
 obtain ⟨x,hx⟩ : ∃ x,es[i]? = some x:=⟨_,at_get hi⟩
 have hat:=at_of hx
 have hxv:=List.all_eq_true.1 hv x (List.mem_of_getElem? hx)
 have hw : IntKind.wrap .i64 ((i : Int) - 1) = i - 1:=wrap_i64 (by omega) (by omega)
 rw [src_found,hat]
 obtain ⟨ag,idx,kind,obj,mux,ent,ord,rd,wr⟩:=x
 refine callT_ev (fn:=fn41) rfl rfl ?_
 by_cases h1 : readsK kind = true
 ·simp only [Evt.reads,h1,if_true]
  by_cases h2 : 0 ≤ ent
  ·simp only [h2,if_true]
   simp [runFun_eq,hx,ED_mk,run73',hxv,h1,h2,run74 es i _ _ hl (by omega)]
  ·simp only [h2,if_false]
   simp [runFun_eq,hx,ED_mk,run73',hxv,h1,h2,hw]
   simp only [ev_bnd_iff]
   refine (src_loop41 es hA hv hl ag idx kind obj mux ent ord rd wr i _ (by omega) (by simp [hx,ED_mk,run73',hxv,h1,h2,hw])).mono ?_
   rintro ⟨y,s⟩ hq
   cases hf : lst (isWr (at' es) obj) i with
   | none =>
    rw [hf] at hq
    obtain ⟨rfl,os,hs⟩:=hq
    rw [found_none hf]
    simp [hs]
   | some w =>
    rw [hf] at hq
    obtain ⟨rfl,os,hs⟩:=hq
    simp [endK_hd (res:=[.t 4]) (live:=[4]) (by simp [AR.slot]) hs]
 ·simp only [Evt.reads,h1,if_false]
  simp [runFun_eq,hx,ED_mk,run73',hxv,h1]
end Go.Am.W

set_option maxRecDepth 10000
set_option maxHeartbeats 4000000
namespace Go.Am.W
open Go.Proofs Go.Rc
def srcs (es : List Evt) (n : Nat) : List Dat:=(List.range n).map fun i => Dat.int .i64 (src (at' es) i)
theorem srcs_len (es : List Evt) (n : Nat) : (srcs es n).length = n:=by simp [srcs]
theorem srcs_succ (es : List Evt) (n : Nat) : srcs es (n + 1) = srcs es n ++ [.int .i64 (src (at' es) n)]:=by simp [srcs,List.range_succ]
theorem srcs_zero (es : List Evt) : srcs es 0 = []:=rfl
theorem sources_loop20 (es : List Evt) (hA : InA es) (hv : es.all vld = true) (hl : es.length < 1000000) : ∀ (m i : Nat) (s : St),i + m = es.length →
  hd [0,3,9,10] [0,3] s = some ⟨[(0,.dat (.sl (es.map ED))),(3,.rsl ((4,0),0,0) i 1 0 i),(9,.dat (.int .i64 es.length)),(10,.dat (.int .i64 i))],[((4,0),.plain (.arr 1 i false (srcs es i)))]⟩ →
  Ev (loopLim (exec KR l20_0) s) fun p => p.1 = .exit 0 ∧ hd [3] [] p.2 = some ⟨[(3,.rsl ((4,0),0,0) es.length 1 0 es.length)],[((4,0),.plain (.arr 1 es.length false (srcs es es.length)))]⟩
 | 0,i,s,hi,hs => by
  have e : i = es.length:=by omega
  subst e
  apply ev_loop
  simp [hs]
 | m + 1,i,s,hi,hs => by
  have ix : Ix i:=by unfold Ix; omega
  have h1 : (i : Int) < es.length:=by omega
  have hr : (i + 1) * 9 ≤ 1099511627776:=by omega
  generalize hQ : (fun p : AEx × St => p.1 = .exit 0 ∧ hd [3] [] p.2 = some ⟨[(3,.rsl ((4,0),0,0) es.length 1 0 es.length)],[((4,0),.plain (.arr 1 es.length false (srcs es es.length)))]⟩) = Q
  have ih:=fun s => sources_loop20 es hA hv hl m (i + 1) s (by omega)
  rw [hQ] at ih
  apply ev_loop
  simp [hs,ix,h1,run41 es hA hv hl i (by omega),hr,srcs_len]
  exact ih _ (by simp [hs,ix,h1,run41 es hA hv hl i (by omega),hr,srcs_len,srcs_succ])
theorem sources_loop21 (es : List Evt) (hA : InA es) (hv : okEvs es = true) (hl : es.length < 1000000) : ∀ (m i : Nat) (s : St),i + m = es.length →
  hd [0,3,4] [0,3] s = some ⟨[(0,.dat (.sl (es.map ED))),(3,.rsl ((4,0),0,0) i 1 0 i),(4,.dat (.int .i64 i))],[((4,0),.plain (.arr 1 i false (srcs es i)))]⟩ →
  Ev (loopLim (exec KR l21_0) s) fun p => p.1 = .exit 0 ∧ hd [3] [] p.2 = some ⟨[(3,.rsl ((4,0),0,0) es.length 1 0 es.length)],[((4,0),.plain (.arr 1 es.length false (srcs es es.length)))]⟩
 | 0,i,s,hi,hs => by
  have e : i = es.length:=by omega
  subst e
  apply ev_loop
  simp [hs]
 | m + 1,i,s,hi,hs => by
  have hva : es.all vld = true:=by simp only [okEvs,Bool.and_eq_true] at hv; exact hv.2
  have ix : Ix i:=by unfold Ix; omega
  have h1 : (i : Int) < es.length:=by omega
  have hr : (i + 1) * 9 ≤ 1099511627776:=by omega
  generalize hQ : (fun p : AEx × St => p.1 = .exit 0 ∧ hd [3] [] p.2 = some ⟨[(3,.rsl ((4,0),0,0) es.length 1 0 es.length)],[((4,0),.plain (.arr 1 es.length false (srcs es es.length)))]⟩) = Q
  have ih:=fun s => sources_loop21 es hA hv hl m (i + 1) s (by omega)
  rw [hQ] at ih
  apply ev_loop
  simp [hs,ix,h1,run42 es hl,hv,run43 es hA hva hl i (by omega),hr,srcs_len]
  exact ih _ (by simp [hs,ix,h1,run42 es hl,hv,run43 es hA hva hl i (by omega),hr,srcs_len,srcs_succ])
theorem run20 (es : List Evt) (hA : InA es) (hl : es.length < 1000000) : KR 20 [.dat (.sl (es.map ED))] [] = some (.dat (.sl (if okEvs es = true then srcs es es.length else [])),[]):=by
 refine callT_ev (fn:=fn20) rfl rfl ?_
 cases hv : okEvs es
 ·simp [runFun_eq,run40 es hl,hv]
 ·have hva : es.all vld = true:=by simp only [okEvs,Bool.and_eq_true] at hv; exact hv.2
  simp [runFun_eq,run40 es hl,hv]
  simp only [ev_bnd_iff]
  refine (sources_loop20 es hA hva hl es.length 0 _ (by omega) (by simp [run40 es hl,hv,srcs_zero])).mono ?_
  rintro ⟨x,s⟩ ⟨rfl,hs⟩
  simp [hs,srcs_len]
theorem run21 (es : List Evt) (hA : InA es) (hl : es.length < 1000000) : KR 21 [.dat (.sl (es.map ED))] [] = some (.dat (.sl (if okEvs es = true then srcs es es.length else [])),[]):=by
 refine callT_ev (fn:=fn21) rfl rfl ?_
 cases hv : okEvs es
 ·simp [runFun_eq]
  simp only [ev_bnd_iff]
  have key : ∀ s,hd [0,3,4] [0,3] s = some ⟨[(0,.dat (.sl (es.map ED))),(3,.rsl ((4,0),0,0) 0 1 0 0),(4,.dat (.int .i64 0))],[((4,0),.plain (.arr 1 0 false []))]⟩ →
    Ev (loopLim (exec KR l21_0) s) fun p => p.1 = .exit 0 ∧ hd [3] [] p.2 = some ⟨[(3,.rsl ((4,0),0,0) 0 1 0 0)],[((4,0),.plain (.arr 1 0 false []))]⟩:=by
   intro s hs
   apply ev_loop
   by_cases h0 : 0 < es.length
   ·have h1 : (0 : Int) < es.length:=by omega
    simp [hs,h0,run42 es hl,hv]
   ·have h1 : ¬ (0 : Int) < es.length:=by omega
    simp [hs,h0]
  refine (key _ (by simp)).mono ?_
  rintro ⟨x,s⟩ ⟨rfl,hs⟩
  simp [hs]
 ·simp [runFun_eq]
  simp only [ev_bnd_iff]
  refine (sources_loop21 es hA hv hl es.length 0 _ (by omega) (by simp [srcs_zero])).mono ?_
  rintro ⟨x,s⟩ ⟨rfl,hs⟩
  simp [hs,srcs_len]
end Go.Am.W

set_option maxRecDepth 10000
set_option maxHeartbeats 4000000
namespace Go.Am.W
open Go.Proofs Go.Rc
theorem run86' (ag idx kind obj mux ent ord rd wr : Int) : KR 86 [.dat (.agg [Nn ag,Nn idx,Nn kind,Nn obj,Nn mux,Nn ent,Nn ord,Nn rd,Nn wr])] [] = some (.dat (.sl ((objs ⟨ag,idx,kind,obj,mux,ent,ord,rd,wr⟩).map TD)),[]):=by
 refine callT_ev (fn:=fn86) rfl rfl ?_
 by_cases h1 : kind = 9
 ·subst h1; simp [runFun_eq,objs,TD_mk]
 by_cases h2 : kind = 10
 ·subst h2; simp [runFun_eq,objs,TD_mk]
 by_cases h3 : kind = 11
 ·subst h3; simp [runFun_eq,objs,TD_mk]
 by_cases h4 : kind = 12
 ·subst h4; simp [runFun_eq,objs,TD_mk]
 by_cases h5 : kind = 13
 ·subst h5; simp [runFun_eq,objs,TD_mk]
 by_cases h6 : kind = 14
 ·subst h6; simp [runFun_eq,objs,TD_mk]
 by_cases h7 : kind = 15
 ·subst h7; simp [runFun_eq,objs,TD_mk]
 simp [runFun_eq,objs,h1,h2,h3,h4,h5,h6,h7]
def ID' (i : Nat) : Dat:=Nn i
theorem ID_mk (i : Nat) : ID' i = Dat.int .i64 (i : Int):=rfl
theorem srcs_get (es : List Evt) {n i : Nat} (h : i < n) : (srcs es n)[i]? = some (.int .i64 (src (at' es) i)):=by
 simp [srcs,h]
theorem srcs_get' (es : List Evt) {n i : Nat} (h : i < n) (h' : i < (srcs es n).length) : (srcs es n)[i] = .int .i64 (src (at' es) i):=by
 simp [srcs]
theorem rels_loop87 (es : List Evt) (hl : es.length < 1000000) : ∀ (f : Nat) (v : Int) (acc : List Nat) (s : St),v < f → v < es.length → -2 ≤ v → acc.length + f < 2000000 →
  hd [0,1,8,9] [0,1,8] s = some ⟨[(0,.dat (.sl (es.map ED))),(1,.dat (.sl (srcs es es.length))),(8,.rsl ((9,0),0,0) acc.length 1 0 acc.length),(9,.dat (.int .i64 v))],[((9,0),.plain (.arr 1 acc.length false (acc.map ID')))]⟩ →
  Ev (loopLim (exec KR l87_0) s) fun p => p.1 = .exit 0 ∧ hd [8] [] p.2 = some ⟨[(8,.rsl ((9,0),0,0) (acc ++ (chain (at' es) f v).filter fun i => rel (at' es i)).length 1 0 (acc ++ (chain (at' es) f v).filter fun i => rel (at' es i)).length)],[((9,0),.plain (.arr 1 (acc ++ (chain (at' es) f v).filter fun i => rel (at' es i)).length false ((acc ++ (chain (at' es) f v).filter fun i => rel (at' es i)).map ID')))]⟩
 | 0,v,acc,s,hf,hv,hv2,ha,hs => by
  have h1 : ¬ 0 ≤ v:=by omega
  apply ev_loop
  simp [hs,chain,h1]
 | f + 1,v,acc,s,hf,hv,hv2,ha,hs => by
  by_cases h0 : 0 ≤ v
  ·obtain ⟨m,rfl⟩ : ∃ m : Nat,v = m:=⟨v.toNat,by omega⟩
   have hm : m < es.length:=by omega
   obtain ⟨x,hx⟩ : ∃ x,es[m]? = some x:=⟨_,at_get hm⟩
   have hat:=at_of hx
   obtain ⟨_,hx2⟩:=List.getElem?_eq_some_iff.1 hx
   have hsr:=srcs_get es hm
   have hsr':=srcs_get' es hm
   have hlt:=src_lt (at' es) m
   have hge:=src_ge (at' es) m
   have hr : (acc.length + 1) * 9 ≤ 1099511627776:=by omega
   have e : chain (at' es) (f + 1) (m : Int) = m :: if (at' es m).kind = 5 then chain (at' es) f (src (at' es) m) else []:=by
    simp only [chain]
    rw [if_neg (by omega)]
    simp
   rw [e,hat]
   generalize hw : src (at' es) m = w at hsr hsr' hlt hge
   have ih:=fun acc s h => rels_loop87 es hl f w acc s (by omega) (by omega) hge h
   obtain ⟨ag,idx,kind,obj,mux,ent,ord,rd,wr⟩:=x
   by_cases hk5 : kind = 5
   ·subst hk5
    simp only [if_true,List.filter_cons,hat]
    by_cases ho : ord = 2
    ·subst ho
     have hrel : rel (⟨ag,idx,5,obj,mux,ent,2,rd,wr⟩ : Evt) = true:=by simp [rel,Evt.puts]
     simp only [hrel,if_true]
     have hg:=ih (acc ++ [m])
     simp only [List.append_assoc,List.singleton_append] at hg
     generalize acc ++ m :: (chain (at' es) f w).filter (fun i => rel (at' es i)) = R at hg ⊢
     generalize (fun p : AEx × St => p.1 = .exit 0 ∧ hd [8] [] p.2 = some ⟨[(8,.rsl ((9,0),0,0) R.length 1 0 R.length)],[((9,0),.plain (.arr 1 R.length false (R.map ID')))]⟩) = Q at hg ⊢
     apply ev_loop
     simp [hs,hx,hx2,hsr,hsr',srcs_len,hm,ED_mk,run62',hr]
     exact hg _ (by simp; omega) (by simp [hs,hx,hx2,hsr,hsr',srcs_len,hm,ED_mk,run62',hr,ID_mk])
    ·have hrel : rel (⟨ag,idx,5,obj,mux,ent,ord,rd,wr⟩ : Evt) = false:=by simp [rel,ho]
     simp only [hrel,if_false,Bool.false_eq_true]
     have hg:=ih acc
     generalize acc ++ (chain (at' es) f w).filter (fun i => rel (at' es i)) = R at hg ⊢
     generalize (fun p : AEx × St => p.1 = .exit 0 ∧ hd [8] [] p.2 = some ⟨[(8,.rsl ((9,0),0,0) R.length 1 0 R.length)],[((9,0),.plain (.arr 1 R.length false (R.map ID')))]⟩) = Q at hg ⊢
     apply ev_loop
     simp [hs,hx,hx2,hsr,hsr',srcs_len,hm,ED_mk,run62',ho]
     exact hg _ (by omega) (by simp [hs,hx,hx2,hsr,hsr',srcs_len,hm,ED_mk,run62',ho])
   ·simp only [hk5,if_false,List.filter_cons,hat,List.filter_nil]
    by_cases hp : (kind = 2 ∨ kind = 3 ∨ kind = 5) ∧ ord = 2
    ·obtain ⟨hp,ho⟩:=hp
     subst ho
     have hrel : rel (⟨ag,idx,kind,obj,mux,ent,2,rd,wr⟩ : Evt) = true:=by simp [rel,Evt.puts]; exact hp
     simp only [hrel,if_true]
     apply ev_loop
     have hp' : kind = 2 ∨ kind = 3:=by omega
     rcases hp' with rfl | rfl <;> simp [hs,hx,ED_mk,run62',hr,ID_mk]
    ·have hrel : rel (⟨ag,idx,kind,obj,mux,ent,ord,rd,wr⟩ : Evt) = false:=by
      simp only [rel,Evt.puts,Bool.and_eq_false_iff,decide_eq_false_iff_not]
      by_cases h : kind = 2 ∨ kind = 3 ∨ kind = 5
      ·exact .inr fun ho => hp ⟨h,ho⟩
      ·exact .inl h
     simp only [hrel,if_false,Bool.false_eq_true,List.append_nil]
     apply ev_loop
     by_cases hk : kind = 2 ∨ kind = 3
     ·have ho : ¬ ord = 2:=fun ho => hp ⟨by omega,ho⟩
      rcases hk with rfl | rfl <;> simp [hs,hx,ED_mk,run62',ho]
     ·simp only [not_or] at hk
      simp [hs,hx,ED_mk,run62',hk.1,hk.2,hk5]
  ·have e : chain (at' es) (f + 1) v = []:=by
    simp only [chain]
    rw [if_pos (by omega)]
   rw [e]
   apply ev_loop
   simp [hs,h0]
theorem run87 (es : List Evt) (hl : es.length < 1000000) (hv : es.all vld = true) (k : Nat) (hk : k < es.length) : KR 87 [.dat (.sl (es.map ED)),.dat (.sl (srcs es es.length)),.dat (.int .i64 k)] [] = some (.dat (.sl ((rels (at' es) k).map ID')),[]):=by
 obtain ⟨x,hx⟩ : ∃ x,es[k]? = some x:=⟨_,at_get hk⟩
 have hat:=at_of hx
 have hxv:=List.all_eq_true.1 hv x (List.mem_of_getElem? hx)
 obtain ⟨_,hx2⟩:=List.getElem?_eq_some_iff.1 hx
 have hsr:=srcs_get es hk
 have hsr':=srcs_get' es hk
 have hlt:=src_lt (at' es) k
 have hge:=src_ge (at' es) k
 unfold rels
 rw [hat]
 generalize hw : src (at' es) k = w at hsr hsr' hlt hge
 obtain ⟨ag,idx,kind,obj,mux,ent,ord,rd,wr⟩:=x
 refine callT_ev (fn:=fn87) rfl rfl ?_
 by_cases h1 : readsK kind = true
 ·by_cases h2 : ord = 2
  ·subst h2
   have ha : acq (⟨ag,idx,kind,obj,mux,ent,2,rd,wr⟩ : Evt) = true:=by simp [acq,Evt.reads,h1]
   rw [if_pos ha]
   simp [runFun_eq,hx,hx2,ED_mk,run73',hxv,h1,hsr,hsr',srcs_len,hk]
   simp only [ev_bnd_iff]
   refine (rels_loop87 es hl k w [] _ (by omega) (by omega) hge (by simp; omega) (by simp [hx,hx2,ED_mk,run73',hxv,h1,hsr,hsr',srcs_len,hk])).mono ?_
   rintro ⟨y,s⟩ ⟨rfl,hs⟩
   simp [hs]
  ·have ha : acq (⟨ag,idx,kind,obj,mux,ent,ord,rd,wr⟩ : Evt) = false:=by simp [acq,h2]
   rw [ha]
   simp [runFun_eq,hx,ED_mk,run73',hxv,h1,h2]
 ·have ha : acq (⟨ag,idx,kind,obj,mux,ent,ord,rd,wr⟩ : Evt) = false:=by simp [acq,Evt.reads,h1]
  rw [ha]
  simp [runFun_eq,hx,ED_mk,run73',hxv,h1]
end Go.Am.W

set_option maxRecDepth 10000
set_option maxHeartbeats 4000000
namespace Go.Am.W
open Go.Proofs Go.Rc
section
variable {α β : Type} [DecidableEq α]
def idxK (a : α) : List (α × β) → Option Nat
 | [] => none
 | (b,_) :: r => if b = a then some 0 else match idxK a r with | some i => some (i + 1) | none => none
def asc (a : α) : List (α × β) → Option β
 | [] => none
 | (b,d) :: r => if b = a then some d else asc a r
def put (a : α) (d : β) (L : List (α × β)) : List (α × β):=match idxK a L with
 | some i => L.set i (a,d)
 | none => L ++ [(a,d)]
theorem idx_cases (a : α) : ∀ L : List (α × β),(idxK a L = none ∧ asc a L = none) ∨ ∃ i v,idxK a L = some i ∧ L[i]? = some (a,v) ∧ asc a L = some v
 | [] => .inl ⟨rfl,rfl⟩
 | (b,d) :: r => by
  by_cases h : b = a
  ·subst h
   exact .inr ⟨0,d,by simp [idxK],by simp,by simp [asc]⟩
  ·rcases idx_cases a r with ⟨h1,h2⟩ | ⟨i,v,h1,h2,h3⟩
   ·exact .inl ⟨by simp [idxK,h,h1],by simp [asc,h,h2]⟩
   ·exact .inr ⟨i + 1,v,by simp [idxK,h,h1],by simpa using h2,by simp [asc,h,h3]⟩
theorem asc_set (a x : α) (d : β) : ∀ (L : List (α × β)) (i : Nat),idxK a L = some i → asc x (L.set i (a,d)) = if x = a then some d else asc x L
 | [],i,h => by simp [idxK] at h
 | (b,e) :: r,i,h => by
  simp only [idxK] at h
  by_cases hb : b = a
  ·subst hb
   simp at h
   subst h
   by_cases hx : x = b
   ·subst hx; simp [asc]
   ·have : ¬ b = x:=fun h => hx h.symm
    simp [asc,hx,this]
  ·rw [if_neg hb] at h
   cases hr : idxK a r with
   | none => rw [hr] at h; cases h
   | some j =>
    rw [hr] at h
    cases h
    have ih:=asc_set a x d r j hr
    simp only [List.set_cons_succ,asc,ih]
    by_cases hbx : b = x
    ·subst hbx
     simp [hb]
    ·simp [hbx]
theorem asc_app (a x : α) (d : β) : ∀ L : List (α × β),idxK a L = none → asc x (L ++ [(a,d)]) = if x = a then some d else asc x L
 | [],h => by
  by_cases hx : x = a
  ·subst hx; simp [asc]
  ·have : ¬ a = x:=fun h => hx h.symm
   simp [asc,hx,this]
 | (b,e) :: r,h => by
  simp only [idxK] at h
  by_cases hb : b = a
  ·rw [if_pos hb] at h; cases h
  ·rw [if_neg hb] at h
   have hr : idxK a r = none:=by cases hr : idxK a r with | none => rfl | some j => rw [hr] at h; cases h
   have ih:=asc_app a x d r hr
   simp only [List.cons_append,asc,ih]
   by_cases hbx : b = x
   ·subst hbx
    simp [hb]
   ·simp [hbx]
theorem asc_put (a x : α) (d : β) (L : List (α × β)) : asc x (put a d L) = if x = a then some d else asc x L:=by
 unfold put
 split
 ·exact asc_set a x d L _ (by assumption)
 ·exact asc_app a x d L (by assumption)
end
def MI (L : List (Int × Dat)) : List (Dat × AVal):=L.map fun p => (Nn p.1,.dat p.2)
def MP (L : List ((Int × Int) × Dat)) : List (Dat × AVal):=L.map fun p => (TD p.1,.dat p.2)
def CF (l : List Nat) : Cell:=.own true false 1 (l.map ID')
def MF (L : List (Int × List Nat)) : List (Dat × Cell):=L.map fun p => (Nn p.1,CF p.2)
theorem find_I (a : Int) : ∀ L : List (Int × Dat),findE false [.int .i64] (Nn a) (MI L) = some (idxK a L)
 | [] => rfl
 | (b,d) :: r => by
  have ih:=find_I a r
  simp only [MI,List.map_cons,findE,idxK] at ih ⊢
  by_cases h : b = a
  ·subst h
   simp [eqCells,eqCell]
  ·have h' : ¬ a = b:=fun h' => h h'.symm
   simp [eqCells,eqCell,h,h',ih]
   cases idxK a r <;> rfl
theorem find_I' (a : Int) (L : List (Int × Dat)) : findE false [.int .i64] (.int .i64 a) (MI L) = some (idxK a L):=find_I a L
theorem find_F (a : Int) : ∀ L : List (Int × List Nat),findE false [.int .i64] (Nn a) (MF L) = some (idxK a L)
 | [] => rfl
 | (b,d) :: r => by
  have ih:=find_F a r
  simp only [MF,List.map_cons,findE,idxK] at ih ⊢
  by_cases h : b = a
  ·subst h
   simp [eqCells,eqCell]
  ·have h' : ¬ a = b:=fun h' => h h'.symm
   simp [eqCells,eqCell,h,h',ih]
   cases idxK a r <;> rfl
theorem find_F' (a : Int) (L : List (Int × List Nat)) : findE false [.int .i64] (.int .i64 a) (MF L) = some (idxK a L):=find_F a L
theorem find_P (a b : Int) : ∀ L : List ((Int × Int) × Dat),findE true [.int .i64,.int .i64] (.agg [Nn a,Nn b]) (MP L) = some (idxK (a,b) L)
 | [] => rfl
 | ((c,e),d) :: r => by
  have ih:=find_P a b r
  simp only [MP,List.map_cons,findE,idxK,TD] at ih ⊢
  by_cases h : c = a
  ·subst h
   by_cases h2 : e = b
   ·subst h2
    simp [eqCells,eqCell]
   ·have h' : ¬ b = e:=fun h' => h2 h'.symm
    simp [eqCells,eqCell,h2,h',ih]
    cases idxK (c,b) r <;> rfl
  ·have h' : ¬ a = c:=fun h' => h h'.symm
   simp [eqCells,eqCell,h,h',ih]
   cases idxK (a,b) r <;> rfl
theorem MI_get {L : List (Int × Dat)} {i : Nat} {a : Int} {v : Dat} (h : L[i]? = some (a,v)) : (MI L)[i]? = some (Nn a,.dat v):=by simp [MI,h]
theorem MP_get {L : List ((Int × Int) × Dat)} {i : Nat} {a : Int × Int} {v : Dat} (h : L[i]? = some (a,v)) : (MP L)[i]? = some (TD a,.dat v):=by simp [MP,h]
theorem MF_get {L : List (Int × List Nat)} {i : Nat} {a : Int} {v : List Nat} (h : L[i]? = some (a,v)) : (MF L)[i]? = some (Nn a,CF v):=by simp [MF,h]
theorem MI_set (L : List (Int × Dat)) (i : Nat) (a : Int) (d : Dat) : (MI L).set i (Nn a,.dat d) = MI (L.set i (a,d)):=by simp [MI,List.map_set]
theorem MI_app (L : List (Int × Dat)) (a : Int) (d : Dat) : MI L ++ [(Nn a,.dat d)] = MI (L ++ [(a,d)]):=by simp [MI]
theorem MP_set (L : List ((Int × Int) × Dat)) (i : Nat) (a : Int × Int) (d : Dat) : (MP L).set i (TD a,.dat d) = MP (L.set i (a,d)):=by simp [MP,List.map_set]
theorem MP_app (L : List ((Int × Int) × Dat)) (a : Int × Int) (d : Dat) : MP L ++ [(TD a,.dat d)] = MP (L ++ [(a,d)]):=by simp [MP]
theorem MF_set (L : List (Int × List Nat)) (i : Nat) (a : Int) (d : List Nat) : (MF L).set i (Nn a,CF d) = MF (L.set i (a,d)):=by simp [MF,List.map_set]
theorem MF_app (L : List (Int × List Nat)) (a : Int) (d : List Nat) : MF L ++ [(Nn a,CF d)] = MF (L ++ [(a,d)]):=by simp [MF]
theorem idsL_dat {α : Type} (f : α → Dat) : ∀ L : List α,AVal.idsL (L.map fun x => AVal.dat (f x)) = []
 | [] => by simp [AVal.idsL]
 | _ :: r => by simp [AVal.idsL,AVal.ids,idsL_dat f r]
@[simp] theorem MI_ids (L : List (Int × Dat)) : AVal.idsL ((MI L).map fun x => x.2) = []:=by
 rw [MI,List.map_map]; exact idsL_dat (fun x : Int × Dat => x.2) L
@[simp] theorem MP_ids (L : List ((Int × Int) × Dat)) : AVal.idsL ((MP L).map fun x => x.2) = []:=by
 rw [MP,List.map_map]; exact idsL_dat (fun x : (Int × Int) × Dat => x.2) L
@[simp] theorem MI_ren (f : Id → Id) (L : List (Int × Dat)) : (MI L).map (fun p => (p.1,p.2.ren f)) = MI L:=by
 simp [MI,AVal.ren,Function.comp_def]
@[simp] theorem MP_ren (f : Id → Id) (L : List ((Int × Int) × Dat)) : (MP L).map (fun p => (p.1,p.2.ren f)) = MP L:=by
 simp [MP,AVal.ren,Function.comp_def]
def cv : Option Clk → AVal
 | none => .nils
 | some c => .dat (CD c)
def cl (o : Option Clk) : Clk:=o.getD []
def SD (e : Evt) (c : Clk) : Dat:=.agg [Nn e.ag,Nn e.idx,Nn e.kind,Nn e.obj,Nn e.mux,Nn e.ent,Nn e.ord,Nn e.rd,Nn e.wr,CD c]
theorem run84 (ve n i : Nat) (oc : Option Clk) (outs : List Dat) (e : Evt) (c : Clk) (hi : outs[i]? = some (SD e c)) (hn : outs.length = n) (hl : n < 1000000)
  (h1 : (cl oc).length < 1000000000) (h2 : c.length < 1000000000) (h3 : okB none (cl oc) = true) (h4 : okB none c = true) :
  KR 84 [.dat (.int .i64 i),.ref ((0,0),0,0) 0,.ref ((0,1),0,0) 0] [.plain (.box [cv oc]),.plain (.box [.rsl ((0,2),0,0) ve 10 0 n]),.plain (.arr 10 ve false outs)] =
   some (.tup [],[.plain (.box [cv (some (join (cl oc) c))]),.plain (.box [.rsl ((0,2),0,0) ve 10 0 n]),.plain (.arr 10 ve false outs)]):=by
 obtain ⟨hi1,hi2⟩:=List.getElem?_eq_some_iff.1 hi
 have hin : i < n:=by omega
 have r:=run85 (cl oc) c h1 h2 h3 h4
 refine callT_ev (fn:=fn84) rfl rfl ?_
 subst hn
 cases oc with
 | none =>
  simp only [cl,Option.getD_none,CD,List.map_nil] at r
  simp [runFun_eq,cv,cl,hi,hi2,hin,SD,r]
 | some d =>
  simp only [cl,Option.getD_some] at r
  simp [runFun_eq,cv,cl,hi,hi2,hin,SD,r]
end Go.Am.W

set_option maxRecDepth 10000
set_option maxHeartbeats 4000000
namespace Go.Am.W
open Go.Proofs Go.Rc
abbrev LV : List Nat:=[0,3,4,5,6,7,8,9,10,11,32,33,34]
abbrev E0 (es : List Evt) (k : Nat) : Env:=[(0,.dat (.sl (es.map ED))),(3,.dat (.sl (srcs es es.length))),(4,.bref false ((5,0),0,0)),(5,.bref false ((6,0),0,0)),(6,.bref false ((7,0),0,0)),(7,.ref ((8,0),0,0) 0),(8,.dat (.int .i64 k)),(9,.ref ((10,0),0,0) 0),(10,.ref ((11,0),0,0) 0),(11,.fn 84 [.ref ((11,0),0,0) 0,.ref ((8,0),0,0) 0]),(32,.dat (.sl (es.map ED))),(33,.dat (.int .i64 es.length)),(34,.dat (.int .i64 k))]
abbrev bxE (e : Evt) : TObj:=.plain (.box [.dat (Nn e.ag),.dat (Nn e.idx),.dat (Nn e.kind),.dat (Nn e.obj),.dat (Nn e.mux),.dat (Nn e.ent),.dat (Nn e.ord),.dat (Nn e.rd),.dat (Nn e.wr)])
abbrev O0 (LA : List (Int × Dat)) (LS : List ((Int × Int) × Dat)) (pv : Nat) (LP : List (Int × List Nat)) (ve n : Nat) (outs : List Dat) (e : Evt) (oc : Option Clk) : TStore :=
 [((5,0),.plain (.blk (.map (MI LA)))),((6,0),.plain (.blk (.map (MP LS)))),((7,0),.mapf pv (MF LP)),((8,0),.plain (.box [.rsl ((8,1),0,0) ve 10 0 n])),((10,0),bxE e),((11,0),.plain (.box [cv oc])),((8,1),.plain (.arr 10 ve false outs))]
@[simp] theorem cv_ids (o : Option Clk) : (cv o).ids = []:=by cases o <;> rfl
@[simp] theorem cv_rids (o : Option Clk) : (cv o).rids = []:=by cases o <;> rfl
@[simp] theorem cv_ren (f : Id → Id) (o : Option Clk) : (cv o).ren f = cv o:=by cases o <;> rfl
@[simp] theorem cv_tren (f : RId → RId) (o : Option Clk) : (cv o).tren f = cv o:=by cases o <;> rfl
def jn (clk : Nat → Clk) (oc : Option Clk) (l : List Nat) : Option Clk:=l.foldl (fun o j => some (join (cl o) (clk j))) oc
theorem jn_nil (clk : Nat → Clk) (oc : Option Clk) : jn clk oc [] = oc:=rfl
theorem jn_cons (clk : Nat → Clk) (oc : Option Clk) (j : Nat) (l : List Nat) : jn clk oc (j :: l) = jn clk (some (join (cl oc) (clk j))) l:=rfl
def Good (es : List Evt) (clk : Nat → Clk) (n : Nat) (outs : List Dat) : Prop :=
 outs.length = n ∧ n < 1000000 ∧ ∀ j,j < n → outs[j]? = some (SD (at' es j) (clk j)) ∧ okB none (clk j) = true ∧ (clk j).length < 1000
def Can (oc : Option Clk) (m : Nat) : Prop:=okB none (cl oc) = true ∧ (cl oc).length + 1000 * m < 1000000000
theorem join_len : ∀ (a b : Clk),(join a b).length ≤ a.length + b.length
 | [],b => by rw [join]; simp
 | (a,c) :: r,[] => by rw [join]; simp
 | (a,c) :: r,(b,d) :: s => by
  rw [join]
  split
  ·have:=join_len r s; simp; omega
  ·split
   ·have:=join_len r ((b,d) :: s); simp at *; omega
   ·have:=join_len ((a,c) :: r) s; simp at *; omega
 termination_by a b => a.length + b.length
theorem Can.next {es : List Evt} {clk : Nat → Clk} {n : Nat} {outs : List Dat} {oc : Option Clk} {m j : Nat} (h : Can oc (m + 1)) (hG : Good es clk n outs) (hj : j < n) : Can (some (join (cl oc) (clk j))) m:=by
 obtain ⟨h1,h2⟩:=h
 obtain ⟨_,h3,h4⟩:=hG.2.2 j hj
 refine ⟨(okB_iff _ _).2 (join_ok _ _ _ ((okB_iff _ _).1 h1) ((okB_iff _ _).1 h3)),?_⟩
 have:=join_len (cl oc) (clk j)
 show (join (cl oc) (clk j)).length + 1000 * m < 1000000000
 omega
theorem run84' (ve : Nat) {es : List Evt} {clk : Nat → Clk} {n : Nat} {outs : List Dat} (hG : Good es clk n outs) {oc : Option Clk} {m : Nat} (hc : Can oc (m + 1)) {j : Nat} (hj : j < n) :
  KR 84 [.dat (.int .i64 j),.ref ((0,0),0,0) 0,.ref ((0,1),0,0) 0] [.plain (.box [cv oc]),.plain (.box [.rsl ((0,2),0,0) ve 10 0 n]),.plain (.arr 10 ve false outs)] =
   some (.tup [],[.plain (.box [cv (some (join (cl oc) (clk j)))]),.plain (.box [.rsl ((0,2),0,0) ve 10 0 n]),.plain (.arr 10 ve false outs)]):=by
 obtain ⟨h1,h2,h3⟩:=hG.2.2 j hj
 exact run84 ve n j oc outs _ _ h1 hG.1 hG.2.1 (by have:=hc.2; omega) (by omega) hc.1 h2
theorem loop45_1 {es : List Evt} {clk : Nat → Clk} {n : Nat} {outs : List Dat} (hG : Good es clk n outs) (k : Nat) (LA : List (Int × Dat)) (LS : List ((Int × Int) × Dat)) (pv : Nat) (LP : List (Int × List Nat)) (ve : Nat) (q : Nat) (x : Int) (e : Evt) (l : List Nat) (hq : (MF LP)[q]? = some (Nn x,CF l)) (hl : l.length < 1000000) (hj : ∀ j ∈ l,j < n) :
  ∀ (m i : Nat) (oc : Option Clk) (s : St),i + m = l.length → Can oc m →
  hd [0,3,4,5,6,7,8,9,10,11,32,33,34,75,76,77] [] s = some ⟨E0 es k ++ [(75,.rsl ((7,0),q + 1,0) pv 1 0 l.length),(76,.dat (.int .i64 l.length)),(77,.dat (.int .i64 i))],O0 LA LS pv LP ve n outs e oc⟩ →
  Ev (loopLim (exec KR l45_1) s) fun p => p.1 = .exit 4 ∧ hd LV [] p.2 = some ⟨E0 es k,O0 LA LS pv LP ve n outs e (jn clk oc (l.drop i))⟩
 | 0,i,oc,s,hi,hc,hs => by
  have e : i = l.length:=by omega
  subst e
  apply ev_loop
  simp [hs,jn_nil]
 | m + 1,i,oc,s,hi,hc,hs => by
  obtain ⟨j,hx⟩ : ∃ y,l[i]? = some y:=⟨_,List.getElem?_eq_getElem (by omega)⟩
  have hjn:=hj j (List.mem_of_getElem? hx)
  have h1 : (i : Int) < l.length:=by omega
  have ix : Ix i:=by unfold Ix; omega
  have ih:=fun s => loop45_1 hG k LA LS pv LP ve q x e l hq hl hj m (i + 1) _ s (by omega) (hc.next hG hjn)
  rw [drop_get hx,jn_cons]
  have r:=run84' ve hG hc hjn
  generalize (fun p : AEx × St => p.1 = .exit 4 ∧ hd LV [] p.2 = some ⟨E0 es k,O0 LA LS pv LP ve n outs e (jn clk (some (join (cl oc) (clk j))) (l.drop (i + 1)))⟩) = Q at ih ⊢
  apply ev_loop
  simp [hs,hq,CF,kidO,hx,h1,ix,ID_mk,r,YID]
  exact ih _ (by simp [hs,hq,CF,kidO,hx,h1,ix,ID_mk,r,YID])
end Go.Am.W

set_option maxRecDepth 10000
set_option maxHeartbeats 4000000
namespace Go.Am.W
open Go.Proofs Go.Rc
theorem loop45_2 {es : List Evt} {clk : Nat → Clk} {n : Nat} {outs : List Dat} (hG : Good es clk n outs) (k : Nat) (LA : List (Int × Dat)) (LS : List ((Int × Int) × Dat)) (pv : Nat) (LP : List (Int × List Nat)) (ve : Nat) (q : Nat) (x : Int) (e : Evt) (l : List Nat) (hq : (MF LP)[q]? = some (Nn x,CF l)) (hl : l.length < 1000000) (hj : ∀ j ∈ l,j < n) :
  ∀ (m i : Nat) (oc : Option Clk) (s : St),i + m = l.length → Can oc m →
  hd [0,3,4,5,6,7,8,9,10,11,32,33,34,103,104,105] [] s = some ⟨E0 es k ++ [(103,.rsl ((7,0),q + 1,0) pv 1 0 l.length),(104,.dat (.int .i64 l.length)),(105,.dat (.int .i64 i))],O0 LA LS pv LP ve n outs e oc⟩ →
  Ev (loopLim (exec KR l45_2) s) fun p => p.1 = .exit 7 ∧ hd LV [] p.2 = some ⟨E0 es k,O0 LA LS pv LP ve n outs e (jn clk oc (l.drop i))⟩
 | 0,i,oc,s,hi,hc,hs => by
  have e : i = l.length:=by omega
  subst e
  apply ev_loop
  simp [hs,jn_nil]
 | m + 1,i,oc,s,hi,hc,hs => by
  obtain ⟨j,hx⟩ : ∃ y,l[i]? = some y:=⟨_,List.getElem?_eq_getElem (by omega)⟩
  have hjn:=hj j (List.mem_of_getElem? hx)
  have h1 : (i : Int) < l.length:=by omega
  have ix : Ix i:=by unfold Ix; omega
  have ih:=fun s => loop45_2 hG k LA LS pv LP ve q x e l hq hl hj m (i + 1) _ s (by omega) (hc.next hG hjn)
  rw [drop_get hx,jn_cons]
  have r:=run84' ve hG hc hjn
  generalize (fun p : AEx × St => p.1 = .exit 7 ∧ hd LV [] p.2 = some ⟨E0 es k,O0 LA LS pv LP ve n outs e (jn clk (some (join (cl oc) (clk j))) (l.drop (i + 1)))⟩) = Q at ih ⊢
  apply ev_loop
  simp [hs,hq,CF,kidO,hx,h1,ix,ID_mk,r,YID]
  exact ih _ (by simp [hs,hq,CF,kidO,hx,h1,ix,ID_mk,r,YID])
abbrev LV4 : List Nat:=[0,3,4,5,6,7,8,9,10,32,33,34]
abbrev E4 (es : List Evt) (k : Nat) : Env:=[(0,.dat (.sl (es.map ED))),(3,.dat (.sl (srcs es es.length))),(4,.bref false ((5,0),0,0)),(5,.bref false ((6,0),0,0)),(6,.bref false ((7,0),0,0)),(7,.ref ((8,0),0,0) 0),(8,.dat (.int .i64 k)),(9,.ref ((10,0),0,0) 0),(10,.ref ((11,0),0,0) 0),(32,.dat (.sl (es.map ED))),(33,.dat (.int .i64 es.length)),(34,.dat (.int .i64 k))]
theorem loop45_4 {es : List Evt} {clk : Nat → Clk} {n : Nat} {outs : List Dat} (hG : Good es clk n outs) (k : Nat) (LA : List (Int × Dat)) (LS : List ((Int × Int) × Dat)) (pv : Nat) (LP : List (Int × List Nat)) (ve : Nat) (e : Evt) (l : List Nat) (hl : l.length < 1000000) (hj : ∀ j ∈ l,j < n) :
  ∀ (m i : Nat) (oc : Option Clk) (s : St),i + m = l.length → Can oc m →
  hd [0,3,4,5,6,7,8,9,10,11,32,33,34,153,154,155] [] s = some ⟨E0 es k ++ [(153,.dat (.sl (l.map ID'))),(154,.dat (.int .i64 l.length)),(155,.dat (.int .i64 i))],O0 LA LS pv LP ve n outs e oc⟩ →
  Ev (loopLim (exec KR l45_4) s) fun p => p.1 = .exit 11 ∧ hd LV4 [] p.2 = some ⟨E4 es k,O0 LA LS pv LP ve n outs e (jn clk oc (l.drop i))⟩
 | 0,i,oc,s,hi,hc,hs => by
  have e : i = l.length:=by omega
  subst e
  apply ev_loop
  simp [hs,jn_nil]
 | m + 1,i,oc,s,hi,hc,hs => by
  obtain ⟨j,hx⟩ : ∃ y,l[i]? = some y:=⟨_,List.getElem?_eq_getElem (by omega)⟩
  have hjn:=hj j (List.mem_of_getElem? hx)
  have h1 : (i : Int) < l.length:=by omega
  have ix : Ix i:=by unfold Ix; omega
  have ih:=fun s => loop45_4 hG k LA LS pv LP ve e l hl hj m (i + 1) _ s (by omega) (hc.next hG hjn)
  rw [drop_get hx,jn_cons]
  have r:=run84' ve hG hc hjn
  generalize (fun p : AEx × St => p.1 = .exit 11 ∧ hd LV4 [] p.2 = some ⟨E4 es k,O0 LA LS pv LP ve n outs e (jn clk (some (join (cl oc) (clk j))) (l.drop (i + 1)))⟩) = Q at ih ⊢
  apply ev_loop
  simp [hs,hx,h1,ix,ID_mk,r,YID]
  exact ih _ (by simp [hs,hx,h1,ix,ID_mk,r,YID])
def bufL (e : Nat → Evt) (a t : Int) (i k : Nat) : List Nat:=((List.range k).drop i).filter fun j => isBuf e a t j
theorem bufL_s (e : Nat → Evt) (a t : Int) {i k : Nat} (h : i < k) : bufL e a t i k = if isBuf e a t i = true then i :: bufL e a t (i + 1) k else bufL e a t (i + 1) k:=by
 unfold bufL
 have : (List.range k)[i]? = some i:=by simp [h]
 rw [drop_get this,List.filter_cons]
theorem loop45_3 {es : List Evt} {clk : Nat → Clk} {n : Nat} {outs : List Dat} (hG : Good es clk n outs) (k : Nat) (hkn : k ≤ n) (hk : k < es.length) (hl : es.length < 1000000) (LA : List (Int × Dat)) (LS : List ((Int × Int) × Dat)) (pv : Nat) (LP : List (Int × List Nat)) (ve : Nat) (ag0 idx0 kind0 obj0 mux0 ent0 ord0 rd0 wr0 : Int) (hA0 : -9223372036854775808 ≤ ag0) :
  ∀ (m i : Nat) (oc : Option Clk) (s : St),i + m = k → Can oc m →
  hd [0,3,4,5,6,7,8,9,10,11,32,33,34,115,116] [] s = some ⟨E0 es k ++ [(115,.dat (.int .i64 k)),(116,.dat (.int .i64 i))],O0 LA LS pv LP ve n outs ⟨ag0,idx0,kind0,obj0,mux0,ent0,ord0,rd0,wr0⟩ oc⟩ →
  Ev (loopLim (exec KR l45_3) s) fun p => p.1 = .exit 9 ∧ hd LV [] p.2 = some ⟨E0 es k,O0 LA LS pv LP ve n outs ⟨ag0,idx0,kind0,obj0,mux0,ent0,ord0,rd0,wr0⟩ (jn clk oc (bufL (at' es) (thr ag0) ent0 i k))⟩
 | 0,i,oc,s,hi,hc,hs => by
  have e : i = k:=by omega
  subst e
  have hn : bufL (at' es) (thr ag0) ent0 i i = []:=by
   unfold bufL
   rw [List.drop_eq_nil_of_le (by simp)]
   rfl
  rw [hn]
  apply ev_loop
  simp [hs,jn_nil]
 | m + 1,i,oc,s,hi,hc,hs => by
  have h1 : (i : Int) < k:=by omega
  have h2 : (i : Int) < es.length:=by omega
  have ix : Ix i:=by unfold Ix; omega
  obtain ⟨x,hx⟩ : ∃ x,es[i]? = some x:=⟨_,at_get (by omega)⟩
  have hat:=at_of hx
  obtain ⟨_,hx2⟩:=List.getElem?_eq_some_iff.1 hx
  have r76:=run76 ag0 hA0
  rw [bufL_s _ _ _ (show i < k by omega)]
  obtain ⟨ag,idx,kind,obj,mux,ent,ord,rd,wr⟩:=x
  by_cases hb : kind = 3 ∧ ag = thr ag0 ∧ ent = ent0
  ·obtain ⟨rfl,rfl,rfl⟩:=hb
   have hb : isBuf (at' es) (thr ag0) ent i = true:=by simp [isBuf,hat]
   have ih:=fun s => loop45_3 hG k hkn hk hl LA LS pv LP ve ag0 idx0 kind0 obj0 mux0 ent ord0 rd0 wr0 hA0 m (i + 1) _ s (by omega) (hc.next hG (show i < n by omega))
   simp only [hb,if_true,jn_cons]
   have r:=run84' ve hG hc (show i < n by omega)
   generalize (fun p : AEx × St => p.1 = .exit 9 ∧ hd LV [] p.2 = some ⟨E0 es k,O0 LA LS pv LP ve n outs ⟨ag0,idx0,kind0,obj0,mux0,ent,ord0,rd0,wr0⟩ (jn clk (some (join (cl oc) (clk i))) (bufL (at' es) (thr ag0) ent (i + 1) k))⟩) = Q at ih ⊢
   apply ev_loop
   simp [hs,hx,hx2,h1,h2,ix,ED_mk,r,r76,YID]
   exact ih _ (by simp [hs,hx,hx2,h1,h2,ix,ED_mk,r,r76,YID])
  ·have hb' : isBuf (at' es) (thr ag0) ent0 i = false:=by
    simp only [isBuf,hat]
    simp
    intro h1 h2 h3
    exact hb ⟨h1,h2,h3⟩
   have ih:=fun s => loop45_3 hG k hkn hk hl LA LS pv LP ve ag0 idx0 kind0 obj0 mux0 ent0 ord0 rd0 wr0 hA0 m (i + 1) oc s (by omega) ⟨hc.1,by have:=hc.2; omega⟩
   simp only [hb',Bool.false_eq_true,if_false]
   generalize (fun p : AEx × St => p.1 = .exit 9 ∧ hd LV [] p.2 = some ⟨E0 es k,O0 LA LS pv LP ve n outs ⟨ag0,idx0,kind0,obj0,mux0,ent0,ord0,rd0,wr0⟩ (jn clk oc (bufL (at' es) (thr ag0) ent0 (i + 1) k))⟩) = Q at ih ⊢
   apply ev_loop
   by_cases c1 : kind = 3
   ·subst c1
    by_cases c2 : ag = thr ag0
    ·subst c2
     have c3 : ¬ ent = ent0:=fun c3 => hb ⟨rfl,rfl,c3⟩
     simp [hs,hx,hx2,h1,h2,ix,ED_mk,r76,c3]
     exact ih _ (by simp [hs,hx,hx2,h1,h2,ix,ED_mk,r76,c3])
    ·simp [hs,hx,hx2,h1,h2,ix,ED_mk,r76,c2]
     exact ih _ (by simp [hs,hx,hx2,h1,h2,ix,ED_mk,r76,c2])
   ·simp [hs,hx,hx2,h1,h2,ix,ED_mk,r76,c1]
    exact ih _ (by simp [hs,hx,hx2,h1,h2,ix,ED_mk,r76,c1])
end Go.Am.W

set_option maxRecDepth 10000
set_option maxHeartbeats 4000000
namespace Go.Am.W
open Go.Proofs Go.Rc
theorem put_none {α β : Type} [DecidableEq α] {a : α} {d : β} {L : List (α × β)} (h : idxK a L = none) : put a d L = L ++ [(a,d)]:=by simp [put,h]
theorem put_some {α β : Type} [DecidableEq α] {a : α} {d : β} {L : List (α × β)} {i : Nat} (h : idxK a L = some i) : put a d L = L.set i (a,d):=by simp [put,h]
theorem loop45_0 {es : List Evt} {clk : Nat → Clk} {n : Nat} {outs : List Dat} (hG : Good es clk n outs) (k : Nat) (LA : List (Int × Dat)) (pv : Nat) (LP : List (Int × List Nat)) (ve : Nat) (e : Evt) (lo : Int × Int → Option Nat) (hlo : ∀ o j,lo o = some j → j < n) (l : List (Int × Int)) (hl : l.length < 1000000) :
  ∀ (m i : Nat) (LS : List ((Int × Int) × Dat)) (oc : Option Clk) (s : St),i + m = l.length → Can oc m → (∀ o ∈ l.drop i,asc o LS = (lo o).map ID') → (l.drop i).Nodup →
  hd [0,3,4,5,6,7,8,9,10,11,32,33,34,52,53,54] [0,3,4,5,6,7,9,10,11,32,52] s = some ⟨E0 es k ++ [(52,.dat (.sl (l.map TD))),(53,.dat (.int .i64 l.length)),(54,.dat (.int .i64 i))],O0 LA LS pv LP ve n outs e oc⟩ →
  Ev (loopLim (exec KR l45_0) s) fun p => p.1 = .exit 2 ∧ hd LV [] p.2 = some ⟨E0 es k,O0 LA ((l.drop i).foldl (fun L o => put o (ID' k) L) LS) pv LP ve n outs e (jn clk oc ((l.drop i).flatMap fun o => (lo o).toList))⟩
 | 0,i,LS,oc,s,hi,hc,hS,hN,hs => by
  have e : i = l.length:=by omega
  subst e
  apply ev_loop
  simp [hs,jn_nil]
 | m + 1,i,LS,oc,s,hi,hc,hS,hN,hs => by
  obtain ⟨⟨a,b⟩,hx⟩ : ∃ y,l[i]? = some y:=⟨_,List.getElem?_eq_getElem (by omega)⟩
  have h1 : (i : Int) < l.length:=by omega
  have ix : Ix i:=by unfold Ix; omega
  have hS0:=hS (a,b) (by rw [drop_get hx]; simp)
  rw [drop_get hx] at hN
  obtain ⟨hN1,hN2⟩:=List.nodup_cons.1 hN
  have hS' : ∀ o ∈ l.drop (i + 1),asc o (put (a,b) (ID' k) LS) = (lo o).map ID':=by
   intro o ho
   have : ¬ o = (a,b):=fun e => hN1 (e ▸ ho)
   rw [asc_put,if_neg this]
   exact hS o (by rw [drop_get hx]; simp [ho])
  rw [drop_get hx]
  simp only [List.foldl_cons,List.flatMap_cons]
  rcases idx_cases (a,b) LS with ⟨g1,g2⟩ | ⟨q,v,g1,g2,g3⟩
  ·have hn : lo (a,b) = none:=by
    rw [g2] at hS0
    cases h : lo (a,b) with
    | none => rfl
    | some j => rw [h] at hS0; cases hS0
   have hp : MP LS ++ [(Dat.agg [Nn a,Nn b],AVal.dat (Dat.int .i64 (k : Int)))] = MP (put (a,b) (ID' k) LS):=by
    rw [put_none g1]; exact MP_app LS (a,b) (ID' k)
   rw [hn]
   have ih:=fun s => loop45_0 hG k LA pv LP ve e lo hlo l hl m (i + 1) _ oc s (by omega) ⟨hc.1,by have:=hc.2; omega⟩ hS' hN2
   simp only [Option.toList_none,List.nil_append]
   generalize (fun p : AEx × St => p.1 = .exit 2 ∧ hd LV [] p.2 = some ⟨E0 es k,O0 LA ((l.drop (i + 1)).foldl (fun L o => put o (ID' k) L) (put (a,b) (ID' k) LS)) pv LP ve n outs e (jn clk oc ((l.drop (i + 1)).flatMap fun o => (lo o).toList))⟩) = Q at ih ⊢
   apply ev_loop
   simp [hs,hx,h1,ix,TD_mk,YID,lkpE,zeroV,mupE,keyE,find_P,g1,hp]
   exact ih _ (by simp [hs,hx,h1,ix,TD_mk,YID,lkpE,zeroV,mupE,keyE,find_P,g1,hp])
  ·obtain ⟨j,hj,hv⟩ : ∃ j,lo (a,b) = some j ∧ v = ID' j:=by
    rw [g3] at hS0
    cases h : lo (a,b) with
    | none => rw [h] at hS0; cases hS0
    | some j => rw [h] at hS0; exact ⟨j,rfl,by simpa using hS0⟩
   subst hv
   have hjn:=hlo _ _ hj
   have g2':=MP_get g2
   rw [TD_mk,ID_mk] at g2'
   have hp : (MP LS).set q (Dat.agg [Nn a,Nn b],AVal.dat (Dat.int .i64 (k : Int))) = MP (put (a,b) (ID' k) LS):=by
    rw [put_some g1]; exact MP_set LS q (a,b) (ID' k)
   rw [hj]
   have r:=run84' ve hG hc hjn
   have ih:=fun s => loop45_0 hG k LA pv LP ve e lo hlo l hl m (i + 1) _ _ s (by omega) (hc.next hG hjn) hS' hN2
   simp only [Option.toList_some,List.singleton_append,jn_cons]
   generalize (fun p : AEx × St => p.1 = .exit 2 ∧ hd LV [] p.2 = some ⟨E0 es k,O0 LA ((l.drop (i + 1)).foldl (fun L o => put o (ID' k) L) (put (a,b) (ID' k) LS)) pv LP ve n outs e (jn clk (some (join (cl oc) (clk j))) ((l.drop (i + 1)).flatMap fun o => (lo o).toList))⟩) = Q at ih ⊢
   apply ev_loop
   simp [hs,hx,h1,ix,TD_mk,YID,lkpE,zeroV,mupE,keyE,find_P,g1,g2',hp,r]
   exact ih _ (by simp [hs,hx,h1,ix,TD_mk,YID,lkpE,zeroV,mupE,keyE,find_P,g1,g2',hp,r])
end Go.Am.W

set_option maxRecDepth 10000
set_option maxHeartbeats 4000000
namespace Go.Am.W
open Go.Proofs Go.Rc
abbrev O1 (LA : List (Int × Dat)) (LS : List ((Int × Int) × Dat)) (pv : Nat) (LP : List (Int × List Nat)) (ve n : Nat) (outs : List Dat) (e : Evt) (oc : Option Clk) : TStore :=
 [((5,0),.plain (.blk (.map (MI LA)))),((6,0),.plain (.blk (.map (MP LS)))),((7,0),.mapf pv (MF LP)),((8,0),.plain (.box [.rsl ((8,1),0,0) ve 10 0 n])),((8,1),.plain (.arr 10 ve false outs)),((10,0),bxE e),((11,0),.plain (.box [cv oc]))]
def cA : AC:=.seq (.reg r45_9) (.seq (.reg r45_10) (.cond (.t 47) (.reg r45_11) (.skip)))
def cB : AC:=.seq (.reg r45_12) (.block 2 (.loop l45_0))
def cC : AC:=.seq (.reg r45_20) (.block 4 (.loop l45_1))
def cD : AC:=.seq (.reg r45_25) (.block 6 (.seq (.reg r45_26) (.cond (.t 87) (.seq (.seq (.reg r45_27) (.seq (.reg r45_28) (.cond (.t 96) (.reg r45_29) (.skip)))) (.seq (.reg r45_30) (.block 7 (.loop l45_2)))) (.seq (.reg r45_35) (.cond (.t 113) (.seq (.reg r45_36) (.block 9 (.loop l45_3))) (.skip))))))
def cF : AC:=.seq (.reg r45_42) (.block 11 (.loop l45_4))
def cI : AC:=.seq (.reg r45_49) (.cond (.t 178) (.reg r45_50) (.skip))
theorem l45_5s : l45_5 = .seq (.reg r45_5) (.seq (.cond (.t 35) (.skip) (.exit 0)) (.seq (.block 1 (.seq (.reg r45_6) (.seq (.reg r45_7) (.seq (.reg r45_8) (.seq cA (.seq cB (.seq cC (.seq cD (.seq cF (.seq (.reg r45_47) (.seq (.reg r45_48) cI))))))))))) (.reg r45_51))):=rfl
section
variable {es : List Evt} {clk : Nat → Clk} {n : Nat} {outs : List Dat} (hG : Good es clk n outs) (k : Nat) (LA : List (Int × Dat)) (LS : List ((Int × Int) × Dat)) (pv : Nat) (LP : List (Int × List Nat)) (ve : Nat) (ag idx kind obj mux ent ord rd wr : Int) (oc : Option Clk)
include hG
theorem seg_A (lo : Option Nat) (hlo : ∀ j,lo = some j → j < n) (hA : asc ag LA = lo.map ID') (s : St)
  (hs : hd LV [] s = some ⟨E0 es k,O1 LA LS pv LP ve n outs ⟨ag,idx,kind,obj,mux,ent,ord,rd,wr⟩ none⟩) :
  Ev (exec KR cA s) fun p => p.1 = .normal ∧ hd LV [] p.2 = some ⟨E0 es k,O1 LA LS pv LP ve n outs ⟨ag,idx,kind,obj,mux,ent,ord,rd,wr⟩ (jn clk none lo.toList)⟩:=by
 unfold cA
 rcases idx_cases ag LA with ⟨g1,g2⟩ | ⟨q,v,g1,g2,g3⟩
 ·have hn : lo = none:=by
   rw [g2] at hA
   cases h : lo with
   | none => rfl
   | some j => rw [h] at hA; cases hA
  subst hn
  simp [hs,lkpE,zeroV,keyE,find_I',g1,jn_nil]
 ·obtain ⟨j,hj,hv⟩ : ∃ j,lo = some j ∧ v = ID' j:=by
   rw [g3] at hA
   cases h : lo with
   | none => rw [h] at hA; cases hA
   | some j => rw [h] at hA; exact ⟨j,rfl,by simpa using hA⟩
  subst hv
  subst hj
  have g2':=MI_get g2
  rw [ID_mk] at g2'
  have hc : Can none 1:=⟨rfl,by simp [cl]⟩
  have r:=run84' ve hG hc (hlo j rfl)
  simp [hs,lkpE,zeroV,keyE,find_I',g1,g2',jn_nil,jn_cons,r,YID]
theorem seg_B (lo : Int × Int → Option Nat) (hlo : ∀ o j,lo o = some j → j < n) (hS : ∀ o ∈ objs ⟨ag,idx,kind,obj,mux,ent,ord,rd,wr⟩,asc o LS = (lo o).map ID')
  (hc : Can oc 2) (s : St)
  (hs : hd LV [] s = some ⟨E0 es k,O1 LA LS pv LP ve n outs ⟨ag,idx,kind,obj,mux,ent,ord,rd,wr⟩ oc⟩) :
  Ev (exec KR cB s) fun p => p.1 = .normal ∧ hd LV [] p.2 = some ⟨E0 es k,O0 LA ((objs ⟨ag,idx,kind,obj,mux,ent,ord,rd,wr⟩).foldl (fun L o => put o (ID' k) L) LS) pv LP ve n outs ⟨ag,idx,kind,obj,mux,ent,ord,rd,wr⟩ (jn clk oc ((objs ⟨ag,idx,kind,obj,mux,ent,ord,rd,wr⟩).flatMap fun o => (lo o).toList))⟩:=by
 unfold cB
 have h2 : (objs ⟨ag,idx,kind,obj,mux,ent,ord,rd,wr⟩).length ≤ 2:=by unfold objs; split <;> (try split) <;> (try split) <;> simp
 have hN : (objs ⟨ag,idx,kind,obj,mux,ent,ord,rd,wr⟩).Nodup:=by unfold objs; split <;> (try split) <;> (try split) <;> simp
 have r:=run86' ag idx kind obj mux ent ord rd wr
 generalize objs ⟨ag,idx,kind,obj,mux,ent,ord,rd,wr⟩ = l at *
 simp [hs,r]
 simp only [ev_bnd_iff]
 refine (loop45_0 hG k LA pv LP ve ⟨ag,idx,kind,obj,mux,ent,ord,rd,wr⟩ lo hlo l (by omega) l.length 0 LS oc _ (by omega) ⟨hc.1,by have:=hc.2; omega⟩ hS hN (by simp [hs,r])).mono ?_
 rintro ⟨y,s⟩ ⟨rfl,hs⟩
 simp only [List.drop_zero] at hs
 simp [hs]
theorem seg_C (l : List Nat) (hj : ∀ j ∈ l,j < n) (hP : asc ag LP = if l = [] then none else some l) (hl : l.length < 1000000) (hc : Can oc l.length) (s : St)
  (hs : hd LV [] s = some ⟨E0 es k,O0 LA LS pv LP ve n outs ⟨ag,idx,kind,obj,mux,ent,ord,rd,wr⟩ oc⟩) :
  Ev (exec KR cC s) fun p => p.1 = .normal ∧ hd LV [] p.2 = some ⟨E0 es k,O0 LA LS pv LP ve n outs ⟨ag,idx,kind,obj,mux,ent,ord,rd,wr⟩ (jn clk oc l)⟩:=by
 unfold cC
 rcases idx_cases ag LP with ⟨g1,g2⟩ | ⟨q,v,g1,g2,g3⟩
 ·have hn : l = []:=by
   rw [g2] at hP
   by_cases h : l = []
   ·exact h
   ·rw [if_neg h] at hP; cases hP
  subst hn
  simp [hs,lkpE,zeroV,keyE,findE_ents,find_F',g1,jn_nil]
  simp only [ev_bnd_iff]
  apply ev_loop
  simp [hs,lkpE,zeroV,keyE,findE_ents,find_F',g1,jn_nil]
 ·have hv : v = l:=by
   rw [g3] at hP
   by_cases h : l = []
   ·rw [if_pos h] at hP; cases hP
   ·rw [if_neg h] at hP; exact Option.some.inj hP
  subst hv
  have hq:=MF_get g2
  simp [hs,lkpE,zeroV,keyE,findE_ents,find_F',g1,entsA_get,hq,CF,cellA]
  simp only [ev_bnd_iff]
  refine (loop45_1 hG k LA LS pv LP ve q ag ⟨ag,idx,kind,obj,mux,ent,ord,rd,wr⟩ v hq hl hj v.length 0 oc _ (by omega) hc (by simp [hs,lkpE,zeroV,keyE,findE_ents,find_F',g1,entsA_get,hq,CF,cellA])).mono ?_
  rintro ⟨y,s⟩ ⟨rfl,hs⟩
  simp only [List.drop_zero] at hs
  simp [hs]
end
end Go.Am.W

set_option maxRecDepth 10000
set_option maxHeartbeats 4000000
namespace Go.Am.W
open Go.Proofs Go.Rc
def specL (e : Nat → Evt) (x : Evt) (lo : Option Nat) (l : List Nat) (k : Nat) : List Nat :=
 if x.kind = 17 then lo.toList ++ l else if x.kind = 4 then bufL e (thr x.ag) x.ent 0 k else []
theorem jn_app (clk : Nat → Clk) (oc : Option Clk) (l l' : List Nat) : jn clk oc (l ++ l') = jn clk (jn clk oc l) l':=by simp [jn,List.foldl_append]
theorem Can.jn {es : List Evt} {clk : Nat → Clk} {n : Nat} {outs : List Dat} (hG : Good es clk n outs) : ∀ (l : List Nat) (m : Nat) (oc : Option Clk),Can oc (l.length + m) → (∀ j ∈ l,j < n) → Can (jn clk oc l) m
 | [],m,oc,h,_ => by simpa [jn_nil] using h
 | j :: l,m,oc,h,hj => by
  rw [jn_cons]
  refine Can.jn hG l m _ (Can.next (m:=l.length + m) (by rw [show l.length + m + 1 = (j :: l).length + m by simp; omega]; exact h) hG (hj j (by simp))) fun i hi => hj i (by simp [hi])
section
variable {es : List Evt} {clk : Nat → Clk} {n : Nat} {outs : List Dat} (hG : Good es clk n outs) (k : Nat) (LA : List (Int × Dat)) (LS : List ((Int × Int) × Dat)) (pv : Nat) (LP : List (Int × List Nat)) (ve : Nat) (ag idx kind obj mux ent ord rd wr : Int) (oc : Option Clk)
include hG
theorem seg_D (hkn : k ≤ n) (hk : k < es.length) (hes : es.length < 1000000) (hA0 : -9223372036854775808 ≤ ag) (lo : Option Nat) (hlo : ∀ j,lo = some j → j < n) (hA : asc obj LA = lo.map ID')
  (l : List Nat) (hj : ∀ j ∈ l,j < n) (hP : asc obj LP = if l = [] then none else some l) (hl : l.length < 1000000) (hc : Can oc (1 + (l.length + k))) (s : St)
  (hs : hd LV [] s = some ⟨E0 es k,O0 LA LS pv LP ve n outs ⟨ag,idx,kind,obj,mux,ent,ord,rd,wr⟩ oc⟩) :
  Ev (exec KR cD s) fun p => p.1 = .normal ∧ hd LV [] p.2 = some ⟨E0 es k,O0 LA LS pv LP ve n outs ⟨ag,idx,kind,obj,mux,ent,ord,rd,wr⟩ (jn clk oc (specL (at' es) ⟨ag,idx,kind,obj,mux,ent,ord,rd,wr⟩ lo l k))⟩:=by
 unfold cD
 by_cases h17 : kind = 17
 ·subst h17
  have e : specL (at' es) ⟨ag,idx,17,obj,mux,ent,ord,rd,wr⟩ lo l k = lo.toList ++ l:=if_pos rfl
  rw [e,jn_app]
  have hlj : ∀ j ∈ lo.toList,j < n:=fun j hj => hlo j (by simpa using hj)
  have hc2 : Can (jn clk oc lo.toList) l.length:=by
   refine Can.jn hG lo.toList l.length oc ⟨hc.1,?_⟩ hlj
   have:=hc.2
   have : lo.toList.length ≤ 1:=by cases lo <;> simp
   omega
  have step : ∀ oc' s,oc' = jn clk oc lo.toList → hd LV [] s = some ⟨E0 es k,O0 LA LS pv LP ve n outs ⟨ag,idx,17,obj,mux,ent,ord,rd,wr⟩ oc'⟩ →
    Ev (exec KR (.seq (.reg r45_30) (.block 7 (.loop l45_2))) s) fun p => p.1 = .normal ∧ hd LV [] p.2 = some ⟨E0 es k,O0 LA LS pv LP ve n outs ⟨ag,idx,17,obj,mux,ent,ord,rd,wr⟩ (jn clk (jn clk oc lo.toList) l)⟩:=by
   rintro oc' s rfl hs
   generalize jn clk oc lo.toList = oc at *
   rcases idx_cases obj LP with ⟨g1,g2⟩ | ⟨q,v,g1,g2,g3⟩
   ·have hn : l = []:=by
     rw [g2] at hP
     by_cases h : l = []
     ·exact h
     ·rw [if_neg h] at hP; cases hP
    subst hn
    simp [hs,lkpE,zeroV,keyE,findE_ents,find_F',g1,jn_nil]
    simp only [ev_bnd_iff]
    apply ev_loop
    simp [hs,lkpE,zeroV,keyE,findE_ents,find_F',g1,jn_nil]
   ·have hv : v = l:=by
     rw [g3] at hP
     by_cases h : l = []
     ·rw [if_pos h] at hP; cases hP
     ·rw [if_neg h] at hP; exact Option.some.inj hP
    subst hv
    have hq:=MF_get g2
    simp [hs,lkpE,zeroV,keyE,findE_ents,find_F',g1,entsA_get,hq,CF,cellA]
    simp only [ev_bnd_iff]
    refine (loop45_2 hG k LA LS pv LP ve q obj ⟨ag,idx,17,obj,mux,ent,ord,rd,wr⟩ v hq hl hj v.length 0 oc _ (by omega) hc2 (by simp [hs,lkpE,zeroV,keyE,findE_ents,find_F',g1,entsA_get,hq,CF,cellA])).mono ?_
    rintro ⟨y,s⟩ ⟨rfl,hs⟩
    simp only [List.drop_zero] at hs
    simp [hs]
  generalize hK : AC.seq (.reg r45_30) (.block 7 (.loop l45_2)) = K30 at step
  rcases idx_cases obj LA with ⟨g1,g2⟩ | ⟨q,v,g1,g2,g3⟩
  ·have hn : lo = none:=by
    rw [g2] at hA
    cases h : lo with
    | none => rfl
    | some j => rw [h] at hA; cases hA
   subst hn
   simp [hs,lkpE,zeroV,keyE,find_I',g1]
   simp only [ev_bnd_iff]
   refine (step _ _ rfl (by simp [hs,lkpE,zeroV,keyE,find_I',g1,jn_nil])).mono ?_
   rintro ⟨y,s⟩ ⟨rfl,hs⟩
   simp [hs]
  ·obtain ⟨j,hj',hv⟩ : ∃ j,lo = some j ∧ v = ID' j:=by
    rw [g3] at hA
    cases h : lo with
    | none => rw [h] at hA; cases hA
    | some j => rw [h] at hA; exact ⟨j,rfl,by simpa using hA⟩
   subst hv
   subst hj'
   have g2':=MI_get g2
   rw [ID_mk] at g2'
   have hc1 : Can oc (0 + 1):=⟨hc.1,by have:=hc.2; omega⟩
   have r:=run84' ve hG hc1 (hlo j rfl)
   simp [hs,lkpE,zeroV,keyE,find_I',g1,g2',r,YID]
   simp only [ev_bnd_iff]
   refine (step _ _ rfl (by simp [hs,lkpE,zeroV,keyE,find_I',g1,g2',r,YID,jn_cons,jn_nil])).mono ?_
   rintro ⟨y,s⟩ ⟨rfl,hs⟩
   simp [hs]
 ·by_cases h4 : kind = 4
  ·subst h4
   have e : specL (at' es) ⟨ag,idx,4,obj,mux,ent,ord,rd,wr⟩ lo l k = bufL (at' es) (thr ag) ent 0 k:=by simp [specL]
   rw [e]
   simp [hs]
   simp only [ev_bnd_iff]
   refine (loop45_3 hG k hkn hk hes LA LS pv LP ve ag idx 4 obj mux ent ord rd wr hA0 k 0 oc _ (by omega) ⟨hc.1,by have:=hc.2; omega⟩ (by simp [hs])).mono ?_
   rintro ⟨y,s⟩ ⟨rfl,hs⟩
   simp [hs]
  ·have e : specL (at' es) ⟨ag,idx,kind,obj,mux,ent,ord,rd,wr⟩ lo l k = []:=by simp [specL,h17,h4]
   rw [e,jn_nil]
   simp [hs,h17,h4]
theorem seg_F (hes : es.length < 1000000) (hv : es.all vld = true) (hk : k < es.length) (hj : ∀ j ∈ rels (at' es) k,j < n) (hl : (rels (at' es) k).length < 1000000) (hc : Can oc (rels (at' es) k).length) (s : St)
  (hs : hd LV [] s = some ⟨E0 es k,O0 LA LS pv LP ve n outs ⟨ag,idx,kind,obj,mux,ent,ord,rd,wr⟩ oc⟩) :
  Ev (exec KR cF s) fun p => p.1 = .normal ∧ hd LV4 [] p.2 = some ⟨E4 es k,O0 LA LS pv LP ve n outs ⟨ag,idx,kind,obj,mux,ent,ord,rd,wr⟩ (jn clk oc (rels (at' es) k))⟩:=by
 unfold cF
 have r:=run87 es hes hv k hk
 generalize rels (at' es) k = l at *
 simp [hs,r]
 simp only [ev_bnd_iff]
 refine (loop45_4 hG k LA LS pv LP ve ⟨ag,idx,kind,obj,mux,ent,ord,rd,wr⟩ l hl hj l.length 0 oc _ (by omega) hc (by simp [hs,r])).mono ?_
 rintro ⟨y,s⟩ ⟨rfl,hs⟩
 simp only [List.drop_zero] at hs
 simp [hs]
abbrev LV7 : List Nat:=[0,3,4,5,6,7,8,9,32,33,34]
abbrev E7 (es : List Evt) (k : Nat) : Env:=[(0,.dat (.sl (es.map ED))),(3,.dat (.sl (srcs es es.length))),(4,.bref false ((5,0),0,0)),(5,.bref false ((6,0),0,0)),(6,.bref false ((7,0),0,0)),(7,.ref ((8,0),0,0) 0),(8,.dat (.int .i64 k)),(9,.ref ((10,0),0,0) 0),(32,.dat (.sl (es.map ED))),(33,.dat (.int .i64 es.length)),(34,.dat (.int .i64 k))]
theorem seg_G (hl : (cl oc).length < 1000000000) (ho : okB none (cl oc) = true) (hcn : cnt (cl oc) ag ≠ 2147483647) (s : St)
  (hs : hd LV4 [] s = some ⟨E4 es k,O0 LA LS pv LP ve n outs ⟨ag,idx,kind,obj,mux,ent,ord,rd,wr⟩ oc⟩) :
  Ev (exec KR (.reg r45_47) s) fun p => p.1 = .normal ∧ hd LV7 [] p.2 = some ⟨E7 es k,O0 LA LS pv LP (ve + 1) (n + 1) (outs ++ [SD ⟨ag,idx,kind,obj,mux,ent,ord,rd,wr⟩ (adv (cl oc) ag)]) ⟨ag,idx,kind,obj,mux,ent,ord,rd,wr⟩ oc⟩:=by
 have r:=run88 (cl oc) ag hl ho hcn
 have h1:=hG.1
 have h2 : (n + 1) * 97 ≤ 1099511627776:=by have:=hG.2.1; omega
 subst h1
 cases oc with
 | none =>
  simp only [cl,Option.getD_none,CD,List.map_nil] at r
  simp [hs,r,h2,cv,cl,SD]
 | some c =>
  simp only [cl,Option.getD_some] at r
  simp [hs,r,h2,cv,cl,SD]
end
end Go.Am.W

set_option maxRecDepth 10000
set_option maxHeartbeats 4000000
namespace Go.Am.W
open Go.Proofs Go.Rc
section
variable (e : Nat → Evt)
theorem preds_lt {k j : Nat} (hj : j ∈ preds e k) : j < k:=by
 simp only [preds,List.mem_append] at hj
 rcases hj with (((hj | hj) | hj) | hj) | hj
 ·simp only [Option.mem_toList,lastAg] at hj; exact (lst_spec hj).1
 ·simp only [List.mem_flatMap,Option.mem_toList,lastOb] at hj
  obtain ⟨o,_,hj⟩:=hj
  exact (lst_spec hj).1
 ·simp only [spawned,List.mem_filter,List.mem_range] at hj; exact hj.1
 ·unfold special at hj
  split at hj
  ·rcases List.mem_append.1 hj with hj | hj
   ·simp only [Option.mem_toList,lastAg] at hj; exact (lst_spec hj).1
   ·simp only [spawned,List.mem_filter,List.mem_range] at hj; exact hj.1
  ·split at hj
   ·simp only [buffs,List.mem_filter,List.mem_range] at hj; exact hj.1
   ·simp at hj
 ·unfold rels at hj
  split at hj
  ·have h3:=chain_lt e (List.mem_filter.1 hj).1
   have h4:=src_lt e k
   omega
  ·simp at hj
def clkP (k : Nat) : Clk:=adv (((preds e k).map fun j => if h : j < k then clkP j else []).foldl join []) (e k).ag
 termination_by k
 decreasing_by exact h
theorem clkP_eq (k : Nat) : clkP e k = adv (((preds e k).map (clkP e)).foldl join []) (e k).ag:=by
 have h : ((preds e k).map fun j => if h : j < k then clkP e j else []) = (preds e k).map (clkP e):=by
  apply List.map_congr_left
  intro j hj
  rw [dif_pos (preds_lt e hj)]
 rw [clkP,h]
theorem clkP_joins (n : Nat) : JoinsTo (fun i => (e i).ag) (preds e) (clkP e) n:=fun k _ => clkP_eq e k
theorem fold_len (ag : Nat → Int) (p : Nat → Bool) : ∀ (l : List Nat) (c : Clk),(l.foldl (fun c i => if p i then adv c (ag i) else c) c).length ≤ c.length + l.length
 | [],c => by simp
 | i :: l,c => by
  simp only [List.foldl_cons]
  have:=fold_len ag p l (if p i then adv c (ag i) else c)
  have h2 : (if p i then adv c (ag i) else c).length ≤ c.length + 1:=by
   split
   ·exact adv_len _ _
   ·omega
  simp only [List.length_cons]
  omega
theorem refClk_len (D : Nat → Nat → Bool) (ag : Nat → Int) (k : Nat) : (refClk D ag k).length ≤ k + 1:=by
 have:=fold_len ag (fun i => bef D i k) (List.range k) (adv [] (ag k))
 simp only [refClk]
 simp [adv] at this ⊢
 omega
theorem cnt_le {lim : Int} (hl : 0 ≤ lim) : ∀ {c : Clk} {lo : Option Int} (x : Int),ok lim lo c → cnt c x ≤ lim
 | [],_,_,_ => by simpa [cnt] using hl
 | (a,c) :: r,lo,x,h => by
  simp only [cnt]
  split
  ·exact h.2.2.1
  ·exact cnt_le hl x h.2.2.2
theorem cl_jn (clk : Nat → Clk) : ∀ (l : List Nat) (oc : Option Clk),cl (jn clk oc l) = (l.map clk).foldl join (cl oc)
 | [],oc => rfl
 | j :: l,oc => by rw [jn_cons,cl_jn clk l]; rfl
variable {e}
theorem clkP_ref {n : Nat} (hv : ∀ i,i < n → vld (e i) = true) : ∀ k,k < n → clkP e k = refClk (direct e) (fun i => (e i).ag) k:=clocks_eq hv (clkP_joins e n)
theorem clkP_ok {n : Nat} (hv : ∀ i,i < n → vld (e i) = true) (k : Nat) (hk : k < n) : ok (k + 1) none (clkP e k) ∧ (clkP e k).length ≤ k + 1:=by
 rw [clkP_ref hv k hk]
 exact ⟨refClk_ok _ _ k,refClk_len _ _ k⟩
theorem joined_ok {n : Nat} (hv : ∀ i,i < n → vld (e i) = true) (k : Nat) (hk : k < n) : ok (k + 1) none (cl (jn (clkP e) none (preds e k))):=by
 rw [cl_jn]
 refine (foldl_join (lim:=(k : Int) + 1) (clk:=clkP e) (preds e k) [] trivial fun j hj => ?_).1
 have:=preds_lt e hj
 exact ok_lim (by omega) (clkP_ok hv j (by omega)).1
theorem next_clk (k : Nat) : clkP e k = adv (cl (jn (clkP e) none (preds e k))) (e k).ag:=by
 rw [cl_jn]
 exact clkP_eq e k
theorem good_of {es : List Evt} (hl : es.length < 900) (hv : es.all vld = true) (n : Nat) (hn : n ≤ es.length) : Good es (clkP (at' es)) n ((List.range n).map fun j => SD (at' es j) (clkP (at' es) j)):=by
 have hv' : ∀ i,i < es.length → vld (at' es i) = true:=fun i hi => by
  obtain ⟨x,hx⟩ : ∃ x,es[i]? = some x:=⟨_,at_get hi⟩
  rw [at_of hx]
  exact List.all_eq_true.1 hv x (List.mem_of_getElem? hx)
 refine ⟨by simp,by omega,fun j hj => ⟨by simp [hj],?_,?_⟩⟩
 ·exact (okB_iff _ _).2 (ok_lim (by omega) (clkP_ok hv' j (by omega)).1)
 ·have:=(clkP_ok hv' j (by omega)).2
  omega
end
theorem lastAg_s (e : Nat → Evt) (a : Int) (k : Nat) : lastAg e a (k + 1) = if (e k).ag = a then some k else lastAg e a k:=by
 simp only [lastAg,lst,decide_eq_true_eq]
theorem lastOb_s (e : Nat → Evt) (o : Int × Int) (k : Nat) : lastOb e o (k + 1) = if o ∈ objs (e k) then some k else lastOb e o k:=by
 simp only [lastOb,lst]
 by_cases h : o ∈ objs (e k) <;> simp [h]
theorem spawned_s (e : Nat → Evt) (a : Int) (k : Nat) : spawned e a (k + 1) = spawned e a k ++ if (e k).kind = 16 ∧ (e k).obj = a then [k] else []:=by
 simp only [spawned,List.range_succ,List.filter_append]
 congr 1
 by_cases h1 : (e k).kind = 16 <;> by_cases h2 : (e k).obj = a <;> simp [h1,h2]
theorem spawned_len (e : Nat → Evt) (a : Int) (k : Nat) : (spawned e a k).length ≤ k:=by
 have:=List.length_filter_le (fun i => decide ((e i).kind = 16) && decide ((e i).obj = a)) (List.range k)
 simpa [spawned] using this
theorem spawned_lt {e : Nat → Evt} {a : Int} {k j : Nat} (h : j ∈ spawned e a k) : j < k:=by
 simp only [spawned,List.mem_filter,List.mem_range] at h; exact h.1
theorem asc_foldl {k : Nat} (o : Int × Int) : ∀ (l : List (Int × Int)) (L : List ((Int × Int) × Dat)),asc o (l.foldl (fun L o => put o (ID' k) L) L) = if o ∈ l then some (ID' k) else asc o L
 | [],L => by simp
 | p :: l,L => by
  rw [List.foldl_cons,asc_foldl o l,asc_put]
  by_cases h1 : o ∈ l
  ·simp [h1]
  ·by_cases h2 : o = p
   ·simp [h2]
   ·simp [h1,h2]
def HA (e : Nat → Evt) (k : Nat) (LA : List (Int × Dat)) : Prop:=∀ a,asc a LA = (lastAg e a k).map ID'
def HS (e : Nat → Evt) (k : Nat) (LS : List ((Int × Int) × Dat)) : Prop:=∀ o,asc o LS = (lastOb e o k).map ID'
def HP (e : Nat → Evt) (k : Nat) (LP : List (Int × List Nat)) : Prop:=∀ a,asc a LP = if spawned e a k = [] then none else some (spawned e a k)
theorem HA_nil (e : Nat → Evt) : HA e 0 []:=fun a => by simp [asc,lastAg,lst]
theorem HS_nil (e : Nat → Evt) : HS e 0 []:=fun a => by simp [asc,lastOb,lst]
theorem HP_nil (e : Nat → Evt) : HP e 0 []:=fun a => by simp [asc,spawned]
theorem HA_s {e : Nat → Evt} {k : Nat} {LA : List (Int × Dat)} (h : HA e k LA) : HA e (k + 1) (put (e k).ag (ID' k) LA):=by
 intro a
 rw [asc_put,lastAg_s,h a]
 by_cases h1 : a = (e k).ag
 ·simp [h1]
 ·have : ¬ (e k).ag = a:=fun h => h1 h.symm
  simp [h1,this]
theorem HS_s {e : Nat → Evt} {k : Nat} {LS : List ((Int × Int) × Dat)} (h : HS e k LS) : HS e (k + 1) ((objs (e k)).foldl (fun L o => put o (ID' k) L) LS):=by
 intro o
 rw [asc_foldl,lastOb_s,h o]
 by_cases h1 : o ∈ objs (e k) <;> simp [h1]
theorem HP_s {e : Nat → Evt} {k : Nat} {LP : List (Int × List Nat)} (h : HP e k LP) (h16 : (e k).kind = 16) : HP e (k + 1) (put (e k).obj (spawned e (e k).obj k ++ [k]) LP):=by
 intro a
 rw [asc_put,spawned_s,h a]
 by_cases h1 : a = (e k).obj
 ·simp [h1,h16]
 ·have : ¬ (e k).obj = a:=fun h => h1 h.symm
  simp [h1,this]
theorem HP_k {e : Nat → Evt} {k : Nat} {LP : List (Int × List Nat)} (h : HP e k LP) (h16 : (e k).kind ≠ 16) : HP e (k + 1) LP:=by
 intro a
 rw [spawned_s,h a]
 simp [h16]
end Go.Am.W

set_option maxRecDepth 10000
set_option maxHeartbeats 4000000
namespace Go.Am.W
open Go.Proofs Go.Rc
abbrev LV5 : List Nat:=[0,3,4,5,6,7,32,33,34]
abbrev DV5 : List Nat:=[0,3,4,5,6,7,32]
abbrev E5 (es : List Evt) (k : Nat) : Env:=[(0,.dat (.sl (es.map ED))),(3,.dat (.sl (srcs es es.length))),(4,.bref false ((5,0),0,0)),(5,.bref false ((6,0),0,0)),(6,.bref false ((7,0),0,0)),(7,.ref ((8,0),0,0) 0),(32,.dat (.sl (es.map ED))),(33,.dat (.int .i64 es.length)),(34,.dat (.int .i64 k))]
abbrev O5 (LA : List (Int × Dat)) (LS : List ((Int × Int) × Dat)) (pv : Nat) (LP : List (Int × List Nat)) (ve n : Nat) (outs : List Dat) : TStore :=
 [((5,0),.plain (.blk (.map (MI LA)))),((6,0),.plain (.blk (.map (MP LS)))),((7,0),.mapf pv (MF LP)),((8,0),.plain (.box [.rsl ((8,1),0,0) ve 10 0 n])),((8,1),.plain (.arr 10 ve false outs))]
theorem find_Fs (a : Int) (c : Cell) : ∀ (L : List (Int × List Nat)) (q : Nat),idxK a L = some q → findE false [.int .i64] (.int .i64 a) ((MF L).set q (.int .i64 a,c)) = some (some q)
 | [],q,h => by simp [idxK] at h
 | (b,d) :: r,q,h => by
  simp only [idxK] at h
  by_cases hb : b = a
  ·rw [if_pos hb] at h
   cases h
   simp [MF,findE,eqCells,eqCell]
  ·rw [if_neg hb] at h
   cases hr : idxK a r with
   | none => rw [hr] at h; cases h
   | some j =>
    rw [hr] at h
    cases h
    have ih:=find_Fs a c r j hr
    have h' : ¬ a = b:=fun h' => hb h'.symm
    simp only [MF,List.map_cons,List.set_cons_succ,findE] at ih ⊢
    simp [eqCells,eqCell,hb,h',ih]
section
variable {es : List Evt} (k : Nat) (LA : List (Int × Dat)) (LS : List ((Int × Int) × Dat)) (pv : Nat) (LP : List (Int × List Nat)) (ve n : Nat) (outs : List Dat) (ag idx kind obj mux ent ord rd wr : Int) (oc : Option Clk)
theorem seg_H (s : St) (hs : hd LV7 [] s = some ⟨E7 es k,O0 LA LS pv LP ve n outs ⟨ag,idx,kind,obj,mux,ent,ord,rd,wr⟩ oc⟩) :
  Ev (exec KR (.reg r45_48) s) fun p => p.1 = .normal ∧ hd LV7 [] p.2 = some ⟨E7 es k,O0 (put ag (ID' k) LA) LS pv LP ve n outs ⟨ag,idx,kind,obj,mux,ent,ord,rd,wr⟩ oc⟩:=by
 rcases idx_cases ag LA with ⟨g1,g2⟩ | ⟨q,v,g1,g2,g3⟩
 ·have hp : MI LA ++ [(Dat.int .i64 ag,AVal.dat (Dat.int .i64 (k : Int)))] = MI (put ag (ID' k) LA):=by rw [put_none g1]; exact MI_app LA ag (ID' k)
  simp [hs,mupE,keyE,find_I',g1,hp]
 ·have hp : (MI LA).set q (Dat.int .i64 ag,AVal.dat (Dat.int .i64 (k : Int))) = MI (put ag (ID' k) LA):=by rw [put_some g1]; exact MI_set LA q ag (ID' k)
  simp [hs,mupE,keyE,find_I',g1,hp]
def IQ (es : List Evt) (k : Nat) (LA : List (Int × Dat)) (LS : List ((Int × Int) × Dat)) (LP : List (Int × List Nat)) (ve n : Nat) (outs : List Dat) (p : AEx × St) : Prop :=
 p.1 = .normal ∧ ∃ pv,hd LV5 DV5 p.2 = some ⟨E5 es (k + 1),O5 LA LS pv LP ve n outs⟩
theorem seg_I (hk : k < 1000000) (l : List Nat) (hl : l.length < 1000000) (hP : asc obj LP = if l = [] then none else some l) (s : St) (hs : hd LV7 [] s = some ⟨E7 es k,O0 LA LS pv LP ve n outs ⟨ag,idx,kind,obj,mux,ent,ord,rd,wr⟩ oc⟩) :
  Ev (bnd (bnd (exec KR cI s) (blkK 1)) (seqK KR (.reg r45_51))) (IQ es k LA LS (if kind = 16 then put obj (l ++ [k]) LP else LP) ve n outs):=by
 have ix : Ix k:=by unfold Ix; omega
 unfold cI
 by_cases h16 : kind = 16
 ·subst h16
  rw [if_pos rfl]
  rcases idx_cases obj LP with ⟨g1,g2⟩ | ⟨q,v,g1,g2,g3⟩
  ·have hn : l = []:=by
    rw [g2] at hP
    by_cases h : l = []
    ·exact h
    ·rw [if_neg h] at hP; cases hP
   subst hn
   have hp : MF LP ++ [(Dat.int .i64 obj,CF ([] ++ [k]))] = MF (put obj ([] ++ [k]) LP):=by rw [put_none g1]; exact MF_app LP obj ([] ++ [k])
   simp only [CF,ID_mk,List.nil_append,List.map_cons,List.map_nil] at hp
   unfold IQ
   simp [hs,ix,lkpE,zeroV,mupE,mupF,cellIn,grown,keyE,findE_ents,find_F',g1,entsA_get,CF,cellA,kidO,hp,ID_mk]
  ·have hv : v = l:=by
    rw [g3] at hP
    by_cases h : l = []
    ·rw [if_pos h] at hP; cases hP
    ·rw [if_neg h] at hP; exact Option.some.inj hP
   subst hv
   have hq:=MF_get g2
   obtain ⟨hql,hq2⟩:=List.getElem?_eq_some_iff.1 hq
   simp only [CF] at hq2
   have hr : (v.length + 1) * 9 ≤ 1099511627776:=by omega
   have hp : (MF LP).set q (Dat.int .i64 obj,CF (v ++ [k])) = MF (put obj (v ++ [k]) LP):=by rw [put_some g1]; exact MF_set LP q obj (v ++ [k])
   simp only [CF,ID_mk,List.map_append,List.map_cons,List.map_nil] at hp
   have hf:=fun c => find_Fs obj c LP q g1
   unfold IQ
   simp [hs,ix,lkpE,zeroV,mupE,mupF,cellIn,grown,keyE,findE_ents,find_F',g1,entsA_get,hq,hql,hq2,CF,cellA,kidO,hp,hf,hr,ID_mk]
 ·rw [if_neg h16]
  unfold IQ
  simp [hs,ix,h16]
end
end Go.Am.W

set_option maxRecDepth 10000
set_option maxHeartbeats 4000000
namespace Go.Am.W
open Go.Proofs Go.Rc
abbrev O5z : TStore:=[((5,0),.plain (.blk (.map []))),((6,0),.plain (.blk (.map []))),((7,0),.mapf 0 []),((8,0),.plain (.box [.nils]))]
abbrev O0z (LS : List ((Int × Int) × Dat)) (e : Evt) : TStore :=
 [((5,0),.plain (.blk (.map []))),((6,0),.plain (.blk (.map (MP LS)))),((7,0),.mapf 0 []),((8,0),.plain (.box [.nils])),((10,0),bxE e),((11,0),.plain (.box [.nils]))]
theorem idx_none {α β : Type} [DecidableEq α] (a : α) (L : List (α × β)) : idxK a L = none ↔ asc a L = none:=by
 rcases idx_cases a L with ⟨h1,h2⟩ | ⟨i,v,h1,_,h3⟩
 ·simp [h1,h2]
 ·simp [h1,h3]
theorem loop45_0z (es : List Evt) (e : Evt) (l : List (Int × Int)) (hl : l.length < 1000000) :
  ∀ (m i : Nat) (LS : List ((Int × Int) × Dat)) (s : St),i + m = l.length → (∀ o ∈ l.drop i,asc o LS = none) → (l.drop i).Nodup →
  hd [0,3,4,5,6,7,8,9,10,11,32,33,34,52,53,54] [0,3,4,5,6,7,9,10,11,32,52] s = some ⟨E0 es 0 ++ [(52,.dat (.sl (l.map TD))),(53,.dat (.int .i64 l.length)),(54,.dat (.int .i64 i))],O0z LS e⟩ →
  Ev (loopLim (exec KR l45_0) s) fun p => p.1 = .exit 2 ∧ hd LV [] p.2 = some ⟨E0 es 0,O0z ((l.drop i).foldl (fun L o => put o (ID' 0) L) LS) e⟩
 | 0,i,LS,s,hi,hS,hN,hs => by
  have e : i = l.length:=by omega
  subst e
  apply ev_loop
  simp [hs]
 | m + 1,i,LS,s,hi,hS,hN,hs => by
  obtain ⟨⟨a,b⟩,hx⟩ : ∃ y,l[i]? = some y:=⟨_,List.getElem?_eq_getElem (by omega)⟩
  have h1 : (i : Int) < l.length:=by omega
  have ix : Ix i:=by unfold Ix; omega
  have hS0:=hS (a,b) (by rw [drop_get hx]; simp)
  rw [drop_get hx] at hN
  obtain ⟨hN1,hN2⟩:=List.nodup_cons.1 hN
  have hS' : ∀ o ∈ l.drop (i + 1),asc o (put (a,b) (ID' 0) LS) = none:=by
   intro o ho
   have : ¬ o = (a,b):=fun e => hN1 (e ▸ ho)
   rw [asc_put,if_neg this]
   exact hS o (by rw [drop_get hx]; simp [ho])
  have g1:=(idx_none _ _).2 hS0
  have hp : MP LS ++ [(Dat.agg [Nn a,Nn b],AVal.dat (Dat.int .i64 0))] = MP (put (a,b) (ID' 0) LS):=by
   rw [put_none g1]; exact MP_app LS (a,b) (ID' 0)
  rw [drop_get hx]
  have ih:=fun s => loop45_0z es e l hl m (i + 1) _ s (by omega) hS' hN2
  simp only [List.foldl_cons]
  generalize (fun p : AEx × St => p.1 = .exit 2 ∧ hd LV [] p.2 = some ⟨E0 es 0,O0z ((l.drop (i + 1)).foldl (fun L o => put o (ID' 0) L) (put (a,b) (ID' 0) LS)) e⟩) = Q at ih ⊢
  apply ev_loop
  simp [hs,hx,h1,ix,TD_mk,YID,lkpE,zeroV,mupE,keyE,find_P,g1,hp]
  exact ih _ (by simp [hs,hx,h1,ix,TD_mk,YID,lkpE,zeroV,mupE,keyE,find_P,g1,hp])
def outsP (es : List Evt) (n : Nat) : List Dat:=(List.range n).map fun j => SD (at' es j) (clkP (at' es) j)
theorem outsP_s (es : List Evt) (n : Nat) : outsP es (n + 1) = outsP es n ++ [SD (at' es n) (clkP (at' es) n)]:=by simp [outsP,List.range_succ]
def RQ (es : List Evt) (k : Nat) (p : AEx × St) : Prop :=
 p.1 = .normal ∧ ∃ LA LS pv LP ve,HA (at' es) (k + 1) LA ∧ HS (at' es) (k + 1) LS ∧ HP (at' es) (k + 1) LP ∧ hd LV5 DV5 p.2 = some ⟨E5 es (k + 1),O5 LA LS pv LP ve (k + 1) (outsP es (k + 1))⟩
theorem preds_zero (e : Nat → Evt) : preds e 0 = []:=by
 apply List.eq_nil_iff_forall_not_mem.2
 intro j hj
 have:=preds_lt e hj
 omega
theorem rels_zero (e : Nat → Evt) : rels e 0 = []:=by
 unfold rels
 split <;> simp [chain]
theorem seg_I0 (es : List Evt) (LA : List (Int × Dat)) (LS : List ((Int × Int) × Dat)) (outs : List Dat) (ag idx kind obj mux ent ord rd wr : Int) (s : St)
  (hs : hd LV7 [] s = some ⟨E7 es 0,[((5,0),.plain (.blk (.map (MI LA)))),((6,0),.plain (.blk (.map (MP LS)))),((7,0),.mapf 0 []),((8,0),.plain (.box [.rsl ((172,0),0,0) 0 10 0 1])),((10,0),bxE ⟨ag,idx,kind,obj,mux,ent,ord,rd,wr⟩),((11,0),.plain (.box [.nils])),((172,0),.plain (.arr 10 0 false outs))]⟩) :
  Ev (bnd (bnd (exec KR cI s) (blkK 1)) (seqK KR (.reg r45_51))) (IQ es 0 LA LS (if kind = 16 then [(obj,[0])] else []) 0 1 outs):=by
 have ix : Ix 0:=by unfold Ix; omega
 unfold cI
 by_cases h16 : kind = 16
 ·subst h16
  rw [if_pos rfl]
  unfold IQ
  simp [hs,ix,lkpE,zeroV,mupE,mupF,cellIn,grown,keyE,findE,CF,cellA,kidO,ID_mk,entsA,MF]
 ·rw [if_neg h16]
  unfold IQ
  simp [hs,ix,h16,MF]
section
variable (es : List Evt) (LS : List ((Int × Int) × Dat)) (ag idx kind obj mux ent ord rd wr : Int)
theorem zA (s : St) (hs : hd LV [] s = some ⟨E0 es 0,O0z LS ⟨ag,idx,kind,obj,mux,ent,ord,rd,wr⟩⟩) :
  Ev (exec KR cA s) fun p => p.1 = .normal ∧ hd LV [] p.2 = some ⟨E0 es 0,O0z LS ⟨ag,idx,kind,obj,mux,ent,ord,rd,wr⟩⟩:=by
 unfold cA
 simp [hs,lkpE,zeroV,keyE,findE]
theorem zB (s : St) (hs : hd LV [] s = some ⟨E0 es 0,O0z [] ⟨ag,idx,kind,obj,mux,ent,ord,rd,wr⟩⟩) :
  Ev (exec KR cB s) fun p => p.1 = .normal ∧ hd LV [] p.2 = some ⟨E0 es 0,O0z ((objs ⟨ag,idx,kind,obj,mux,ent,ord,rd,wr⟩).foldl (fun L o => put o (ID' 0) L) []) ⟨ag,idx,kind,obj,mux,ent,ord,rd,wr⟩⟩:=by
 unfold cB
 have h2 : (objs ⟨ag,idx,kind,obj,mux,ent,ord,rd,wr⟩).length ≤ 2:=by unfold objs; split <;> (try split) <;> (try split) <;> simp
 have hN : (objs ⟨ag,idx,kind,obj,mux,ent,ord,rd,wr⟩).Nodup:=by unfold objs; split <;> (try split) <;> (try split) <;> simp
 have r:=run86' ag idx kind obj mux ent ord rd wr
 generalize objs ⟨ag,idx,kind,obj,mux,ent,ord,rd,wr⟩ = l at *
 simp [hs,r]
 simp only [ev_bnd_iff]
 refine (loop45_0z es ⟨ag,idx,kind,obj,mux,ent,ord,rd,wr⟩ l (by omega) l.length 0 [] _ (by omega) (by simp [asc]) hN (by simp [hs,r])).mono ?_
 rintro ⟨y,s⟩ ⟨rfl,hs⟩
 simp only [List.drop_zero] at hs
 simp [hs]
theorem zC (s : St) (hs : hd LV [] s = some ⟨E0 es 0,O0z LS ⟨ag,idx,kind,obj,mux,ent,ord,rd,wr⟩⟩) :
  Ev (exec KR cC s) fun p => p.1 = .normal ∧ hd LV [] p.2 = some ⟨E0 es 0,O0z LS ⟨ag,idx,kind,obj,mux,ent,ord,rd,wr⟩⟩:=by
 unfold cC
 simp [hs,lkpE,zeroV,keyE,findE,entsA]
 simp only [ev_bnd_iff]
 apply ev_loop
 simp [hs,lkpE,zeroV,keyE,findE,entsA]
theorem zD (s : St) (hs : hd LV [] s = some ⟨E0 es 0,O0z LS ⟨ag,idx,kind,obj,mux,ent,ord,rd,wr⟩⟩) :
  Ev (exec KR cD s) fun p => p.1 = .normal ∧ hd LV [] p.2 = some ⟨E0 es 0,O0z LS ⟨ag,idx,kind,obj,mux,ent,ord,rd,wr⟩⟩:=by
 unfold cD
 by_cases h17 : kind = 17
 ·subst h17
  simp [hs,lkpE,zeroV,keyE,findE,entsA]
  simp only [ev_bnd_iff]
  apply ev_loop
  simp [hs,lkpE,zeroV,keyE,findE,entsA]
 ·by_cases h4 : kind = 4
  ·subst h4
   simp [hs]
   simp only [ev_bnd_iff]
   apply ev_loop
   simp [hs]
  ·simp [hs,h17,h4]
theorem zF (hl : es.length < 900) (hv : es.all vld = true) (h0 : 0 < es.length) (s : St) (hs : hd LV [] s = some ⟨E0 es 0,O0z LS ⟨ag,idx,kind,obj,mux,ent,ord,rd,wr⟩⟩) :
  Ev (exec KR cF s) fun p => p.1 = .normal ∧ hd LV4 [] p.2 = some ⟨E4 es 0,O0z LS ⟨ag,idx,kind,obj,mux,ent,ord,rd,wr⟩⟩:=by
 unfold cF
 have r:=run87 es (by omega) hv 0 h0
 rw [rels_zero] at r
 simp only [List.map_nil,Int.ofNat_zero] at r
 simp [hs,r]
 simp only [ev_bnd_iff]
 apply ev_loop
 simp [hs,r]
end
theorem first (es : List Evt) (hl : es.length < 900) (hv : es.all vld = true) (h0 : 0 < es.length) (s : St) (hs : hd LV5 DV5 s = some ⟨E5 es 0,O5z⟩) :
  Ev (exec KR l45_5 s) (RQ es 0):=by
 obtain ⟨x,hx⟩ : ∃ x,es[0]? = some x:=⟨_,at_get h0⟩
 have hat:=at_of hx
 have hx2 : es[0] = x:=(List.getElem?_eq_some_iff.1 hx).2
 have h1 : (0 : Int) < es.length:=by omega
 obtain ⟨ag,idx,kind,obj,mux,ent,ord,rd,wr⟩:=x
 have r88:=run88 [] ag (by simp) rfl (by simp [cnt])
 simp only [CD,List.map_nil,adv,List.map_cons] at r88
 have hLA:=HA_s (HA_nil (at' es))
 have hLS:=HS_s (HS_nil (at' es))
 rw [hat] at hLA hLS
 have hck : clkP (at' es) 0 = [(ag,1)]:=by
  rw [next_clk,preds_zero,hat]
  rfl
 have hout : outsP es 1 = [SD ⟨ag,idx,kind,obj,mux,ent,ord,rd,wr⟩ [(ag,1)]]:=by
  rw [outsP_s,hat,hck]; rfl
 rw [l45_5s]
 simp [hs,hx,hx2,h1,h0,ED_mk]
 simp only [ev_bnd_iff]
 refine (zA es [] ag idx kind obj mux ent ord rd wr _ (by simp [hs,hx,hx2,h1,h0,ED_mk,MP])).mono ?_
 rintro ⟨y,s1⟩ ⟨rfl,hs1⟩
 simp only [seqK_n,exec_seq,ev_bnd_iff]
 refine (zB es ag idx kind obj mux ent ord rd wr _ hs1).mono ?_
 rintro ⟨y,s2⟩ ⟨rfl,hs2⟩
 generalize (objs ⟨ag,idx,kind,obj,mux,ent,ord,rd,wr⟩).foldl (fun L o => put o (ID' 0) L) [] = LS at *
 simp only [seqK_n,exec_seq,ev_bnd_iff]
 refine (zC es LS ag idx kind obj mux ent ord rd wr _ hs2).mono ?_
 rintro ⟨y,s3⟩ ⟨rfl,hs3⟩
 simp only [seqK_n,exec_seq,ev_bnd_iff]
 refine (zD es LS ag idx kind obj mux ent ord rd wr _ hs3).mono ?_
 rintro ⟨y,s4⟩ ⟨rfl,hs4⟩
 simp only [seqK_n,exec_seq,ev_bnd_iff]
 refine (zF es LS ag idx kind obj mux ent ord rd wr hl hv h0 _ hs4).mono ?_
 rintro ⟨y,s5⟩ ⟨rfl,hs5⟩
 simp [hs5,r88,SD,mupE,keyE,findE]
 rw [← ev_bnd_iff (exec KR cI _) (blkK 1),← ev_bnd_iff]
 refine (seg_I0 es (put ag (ID' 0) []) LS (outsP es 1) ag idx kind obj mux ent ord rd wr _ (by simp [hs5,r88,SD,mupE,keyE,findE,hout,put,idxK,MI,ID',CD])).mono ?_
 rintro ⟨y,s⟩ ⟨rfl,pv,hs⟩
 refine ⟨rfl,_,_,pv,_,0,hLA,hLS,?_,hs⟩
 by_cases h16 : kind = 16
 ·rw [if_pos h16]
  have:=HP_s (HP_nil (at' es)) (by rw [hat]; exact h16)
  rw [hat] at this
  exact this
 ·rw [if_neg h16]
  exact HP_k (HP_nil (at' es)) (by rw [hat]; exact h16)
end Go.Am.W

set_option maxRecDepth 10000
set_option maxHeartbeats 4000000
namespace Go.Am.W
open Go.Proofs Go.Rc
theorem Can.le {oc : Option Clk} {m m' : Nat} (h : Can oc m) (hm : m' ≤ m) : Can oc m':=⟨h.1,by have:=h.2; omega⟩
theorem chain_len (e : Nat → Evt) : ∀ (f : Nat) (s : Int),(chain e f s).length ≤ f
 | 0,s => by simp [chain]
 | f + 1,s => by
  simp only [chain]
  split
  ·simp
  ·split
   ·have:=chain_len e f (src e s.toNat)
    simp; omega
   ·simp
theorem rels_len (e : Nat → Evt) (k : Nat) : (rels e k).length ≤ k:=by
 unfold rels
 split
 ·exact Nat.le_trans (List.length_filter_le _ _) (chain_len e k _)
 ·simp
theorem bufL_len (e : Nat → Evt) (a t : Int) (k : Nat) : (bufL e a t 0 k).length ≤ k:=by
 unfold bufL
 refine Nat.le_trans (List.length_filter_le _ _) ?_
 simp
theorem objs_len (x : Evt) : (objs x).length ≤ 2:=by unfold objs; split <;> (try split) <;> (try split) <;> simp
theorem flat_len {α β : Type} (f : α → Option β) : ∀ l : List α,(l.flatMap fun o => (f o).toList).length ≤ l.length
 | [] => by simp
 | a :: l => by
  have:=flat_len f l
  simp only [List.flatMap_cons,List.length_append,List.length_cons]
  have : (f a).toList.length ≤ 1:=by cases f a <;> simp
  omega
def LQ (es : List Evt) (p : AEx × St) : Prop :=
 p.1 = .exit 0 ∧ ∃ LA LS pv LP ve,hd [7] [] p.2 = some ⟨[(7,.ref ((8,0),0,0) 0)],O5 LA LS pv LP ve es.length (outsP es es.length)⟩
theorem loop45_5 (es : List Evt) (hl : es.length < 900) (hv : es.all vld = true) (hIA : InA es) : ∀ (m k : Nat) (LA : List (Int × Dat)) (LS : List ((Int × Int) × Dat)) (pv : Nat) (LP : List (Int × List Nat)) (ve : Nat) (s : St),k + m = es.length →
  HA (at' es) k LA → HS (at' es) k LS → HP (at' es) k LP → hd LV5 DV5 s = some ⟨E5 es k,O5 LA LS pv LP ve k (outsP es k)⟩ → Ev (loopLim (exec KR l45_5) s) (LQ es)
 | 0,k,LA,LS,pv,LP,ve,s,hk,hA,hS,hP,hs => by
  have e : k = es.length:=by omega
  subst e
  apply ev_loop
  unfold LQ
  simp [hs]
  exact ⟨⟨LA,rfl⟩,⟨LS,rfl⟩,LP,rfl⟩
 | m + 1,k,LA,LS,pv,LP,ve,s,hk,hA,hS,hP,hs => by
  obtain ⟨x,hx⟩ : ∃ x,es[k]? = some x:=⟨_,at_get (by omega)⟩
  have hat:=at_of hx
  have h1 : (k : Int) < es.length:=by omega
  have hx2 : ∀ h : k < es.length,es[k] = x:=fun h => (List.getElem?_eq_some_iff.1 hx).2
  have ih:=loop45_5 es hl hv hIA m (k + 1)
  have hG:=good_of hl hv k (by omega)
  have hvi : ∀ i,i < es.length → vld (at' es i) = true:=fun i hi => by
   obtain ⟨y,hy⟩ : ∃ y,es[i]? = some y:=⟨_,at_get hi⟩
   rw [at_of hy]
   exact List.all_eq_true.1 hv y (List.mem_of_getElem? hy)
  have hjo:=joined_ok hvi k (by omega)
  have hnc:=next_clk (e:=at' es) k
  have hpr : preds (at' es) k = (lastAg (at' es) (at' es k).ag k).toList ++ ((objs (at' es k)).flatMap fun o => (lastOb (at' es) o k).toList) ++ spawned (at' es) (at' es k).ag k ++
    specL (at' es) (at' es k) (lastAg (at' es) (at' es k).obj k) (spawned (at' es) (at' es k).obj k) k ++ rels (at' es) k:=by
   simp only [preds,special,specL,buffs,bufL,List.drop_zero]
  have hLA:=HA_s hA
  have hLS:=HS_s hS
  have hvx:=List.all_eq_true.1 hv x (List.mem_of_getElem? hx)
  rw [hat] at hpr hnc hLA hLS
  have h900 : k < 900:=by omega
  have hxag : -9223372036854775808 ≤ x.ag:=(hIA x (List.mem_of_getElem? hx)).1
  obtain ⟨ag,idx,kind,obj,mux,ent,ord,rd,wr⟩:=x
  have lt1 : ∀ a j,lastAg (at' es) a k = some j → j < k:=fun a j h => (lst_spec h).1
  have lt2 : ∀ o j,lastOb (at' es) o k = some j → j < k:=fun o j h => (lst_spec h).1
  have lt3 : ∀ a,∀ j ∈ spawned (at' es) a k,j < k:=fun a j h => spawned_lt h
  have lt4 : ∀ j ∈ preds (at' es) k,j < k:=fun j h => preds_lt _ h
  have lt5 : ∀ j ∈ rels (at' es) k,j < k:=fun j h => lt4 j (by rw [hpr]; simp [h])
  have lt6 : ∀ j ∈ specL (at' es) ⟨ag,idx,kind,obj,mux,ent,ord,rd,wr⟩ (lastAg (at' es) obj k) (spawned (at' es) obj k) k,j < k:=fun j h => lt4 j (by rw [hpr]; simp [h])
  have c0 : Can none 20000:=⟨rfl,by simp [cl]⟩
  have c1 : Can (jn (clkP (at' es)) none (lastAg (at' es) ag k).toList) 19000:=by
   refine Can.jn hG _ 19000 none (c0.le ?_) fun j hj => lt1 ag j (by simpa using hj)
   have : (lastAg (at' es) ag k).toList.length ≤ 1:=by cases lastAg (at' es) ag k <;> simp
   omega
  have c2 : Can (jn (clkP (at' es)) (jn (clkP (at' es)) none (lastAg (at' es) ag k).toList) ((objs ⟨ag,idx,kind,obj,mux,ent,ord,rd,wr⟩).flatMap fun o => (lastOb (at' es) o k).toList)) 18000:=by
   refine Can.jn hG _ 18000 _ (c1.le ?_) fun j hj => ?_
   ·have:=flat_len (fun o => lastOb (at' es) o k) (objs ⟨ag,idx,kind,obj,mux,ent,ord,rd,wr⟩)
    have:=objs_len ⟨ag,idx,kind,obj,mux,ent,ord,rd,wr⟩
    omega
   ·obtain ⟨o,_,ho⟩:=List.mem_flatMap.1 hj
    exact lt2 o j (by simpa using ho)
  have c3:=Can.jn hG (spawned (at' es) ag k) 17000 _ (c2.le (by have:=spawned_len (at' es) ag k; omega)) (lt3 ag)
  have c4:=Can.jn hG (specL (at' es) ⟨ag,idx,kind,obj,mux,ent,ord,rd,wr⟩ (lastAg (at' es) obj k) (spawned (at' es) obj k) k) 15000 _ (c3.le (by
   have h1:=spawned_len (at' es) obj k
   have h2:=bufL_len (at' es) (thr ag) ent k
   have h3 : (lastAg (at' es) obj k).toList.length ≤ 1:=by cases lastAg (at' es) obj k <;> simp
   unfold specL
   split
   ·simp only [List.length_append]; omega
   ·split
    ·exact Nat.le_trans (Nat.add_le_add_right h2 _) (by omega)
    ·simp)) lt6
  have c5:=Can.jn hG (rels (at' es) k) 14000 _ (c4.le (by have:=rels_len (at' es) k; omega)) lt5
  have hoc : jn (clkP (at' es)) (jn (clkP (at' es)) (jn (clkP (at' es)) (jn (clkP (at' es)) (jn (clkP (at' es)) none (lastAg (at' es) ag k).toList) ((objs ⟨ag,idx,kind,obj,mux,ent,ord,rd,wr⟩).flatMap fun o => (lastOb (at' es) o k).toList)) (spawned (at' es) ag k)) (specL (at' es) ⟨ag,idx,kind,obj,mux,ent,ord,rd,wr⟩ (lastAg (at' es) obj k) (spawned (at' es) obj k) k)) (rels (at' es) k) = jn (clkP (at' es)) none (preds (at' es) k):=by
   rw [hpr]
   simp only [jn_app]
  rw [hoc] at c5
  apply ev_loop
  rw [l45_5s]
  simp [hs,hx,hx2,h1,ED_mk]
  simp only [ev_bnd_iff]
  refine (seg_A hG k LA LS pv LP ve ag idx kind obj mux ent ord rd wr (lastAg (at' es) ag k) (lt1 ag) (hA ag) _ (by simp [hs,hx,hx2,h1,ED_mk,cv,outsP])).mono ?_
  rintro ⟨y,s1⟩ ⟨rfl,hs1⟩
  simp only [seqK_n,exec_seq,ev_bnd_iff]
  refine (seg_B hG k LA LS pv LP ve ag idx kind obj mux ent ord rd wr _ (fun o => lastOb (at' es) o k) lt2 (fun o _ => hS o) (c1.le (by omega)) _ hs1).mono ?_
  rintro ⟨y,s2⟩ ⟨rfl,hs2⟩
  simp only [seqK_n,exec_seq,ev_bnd_iff]
  refine (seg_C hG k LA _ pv LP ve ag idx kind obj mux ent ord rd wr _ (spawned (at' es) ag k) (lt3 ag) (hP ag) (by have:=spawned_len (at' es) ag k; omega) (c2.le (by have:=spawned_len (at' es) ag k; omega)) _ hs2).mono ?_
  rintro ⟨y,s3⟩ ⟨rfl,hs3⟩
  simp only [seqK_n,exec_seq,ev_bnd_iff]
  refine (seg_D hG k LA _ pv LP ve ag idx kind obj mux ent ord rd wr _ (Nat.le_refl k) (by omega) (by omega) hxag (lastAg (at' es) obj k) (lt1 obj) (hA obj) (spawned (at' es) obj k) (lt3 obj) (hP obj) (by have:=spawned_len (at' es) obj k; omega) (c3.le (by have:=spawned_len (at' es) obj k; omega)) _ hs3).mono ?_
  rintro ⟨y,s4⟩ ⟨rfl,hs4⟩
  simp only [seqK_n,exec_seq,ev_bnd_iff]
  refine (seg_F hG k LA _ pv LP ve ag idx kind obj mux ent ord rd wr _ (by omega) hv (by omega) lt5 (by have:=rels_len (at' es) k; omega) (c4.le (by have:=rels_len (at' es) k; omega)) _ hs4).mono ?_
  rintro ⟨y,s5⟩ ⟨rfl,hs5⟩
  simp only at hs5
  rw [hoc] at hs5
  simp only [seqK_n,exec_seq,ev_bnd_iff]
  refine (seg_G hG k LA _ pv LP ve ag idx kind obj mux ent ord rd wr _ (by have:=c5.2; omega) c5.1 (by have:=cnt_le (by omega) ag hjo; omega) _ hs5).mono ?_
  rintro ⟨y,s6⟩ ⟨rfl,hs6⟩
  simp only at hs6
  simp only [seqK_n,exec_seq,ev_bnd_iff]
  refine (seg_H k LA _ pv LP (ve + 1) (k + 1) _ ag idx kind obj mux ent ord rd wr _ _ hs6).mono ?_
  rintro ⟨y,s7⟩ ⟨rfl,hs7⟩
  simp only [seqK_n]
  rw [← ev_bnd_iff (exec KR cI _) (blkK 1),← ev_bnd_iff]
  refine (seg_I k _ _ pv LP (ve + 1) (k + 1) _ ag idx kind obj mux ent ord rd wr _ (by omega) (spawned (at' es) obj k) (by have:=spawned_len (at' es) obj k; omega) (hP obj) _ hs7).mono ?_
  rintro ⟨y,s8⟩ ⟨rfl,pv',hs8⟩
  rw [loopQ_n]
  refine ih _ _ pv' (if kind = 16 then put obj (spawned (at' es) obj k ++ [k]) LP else LP) (ve + 1) s8 (by omega) hLA hLS ?_ ?_
  rotate_left
  ·rw [hs8,outsP_s,hat,hnc]; rfl
  ·by_cases h16 : kind = 16
   ·rw [if_pos h16]
    have:=HP_s hP (by rw [hat]; exact h16)
    rw [hat] at this
    exact this
   ·rw [if_neg h16]
    exact HP_k hP (by rw [hat]; exact h16)
end Go.Am.W

set_option maxRecDepth 10000
set_option maxHeartbeats 4000000
namespace Go.Am.W
open Go.Proofs Go.Rc
theorem okEvs_all {es : List Evt} (h : okEvs es = true) : es.all vld = true:=by
 unfold okEvs at h
 simp only [Bool.and_eq_true] at h
 exact h.2
@[simp] theorem outsP_len (es : List Evt) (n : Nat) : (outsP es n).length = n:=by simp [outsP]
theorem run45 (es : List Evt) (hIA : InA es) (hl : es.length < 900) (ho : okEvs es = true) : KR 45 [.dat (.sl (es.map ED))] [] = some (.dat (.sl (outsP es es.length)),[]):=by
 have hv:=okEvs_all ho
 have r20:=run20 es hIA (by omega)
 rw [if_pos ho] at r20
 refine callT_ev (fn:=fn45) rfl rfl ?_
 simp [runFun_eq,r20]
 simp only [ev_bnd_iff]
 by_cases h0 : es.length = 0
 ·have e : es = []:=List.eq_nil_of_length_eq_zero h0
  subst e
  apply ev_loop
  simp [srcs]
  rfl
 ·refine ev_loop ((first es hl hv (by omega) _ (by simp [r20])).mono ?_)
  rintro ⟨y,s⟩ ⟨rfl,LA,LS,pv,LP,ve,hA,hS,hP,hs⟩
  rw [loopQ_n]
  refine (loop45_5 es hl hv hIA (es.length - 1) 1 LA LS pv LP ve s (by omega) hA hS hP hs).mono ?_
  rintro ⟨y,s⟩ ⟨rfl,LA,LS,pv,LP,ve,hs⟩
  simp [hs]
def clksP (es : List Evt) (n : Nat) : List Clk:=(List.range n).map fun j => clkP (at' es) j
@[simp] theorem clksP_len (es : List Evt) (n : Nat) : (clksP es n).length = n:=by simp [clksP]
theorem clksP_s (es : List Evt) (n : Nat) : clksP es (n + 1) = clksP es n ++ [clkP (at' es) n]:=by simp [clksP,List.range_succ]
theorem outsP_get (es : List Evt) {n i : Nat} (h : i < n) : (outsP es n)[i]? = some (SD (at' es i) (clkP (at' es) i)):=by simp [outsP,h]
theorem loop23_0 (es : List Evt) (hl : es.length < 900) : ∀ (m i : Nat) (s : St),i + m = es.length →
  hd [3,10,11,12] [3,10] s = some ⟨[(3,.rsl ((4,0),0,0) i 1 0 i),(10,.dat (.sl (outsP es es.length))),(11,.dat (.int .i64 es.length)),(12,.dat (.int .i64 i))],[((4,0),.plain (.arr 1 i false ((clksP es i).map CD)))]⟩ →
  Ev (loopLim (exec KR l23_0) s) fun p => p.1 = .exit 0 ∧ hd [3] [] p.2 = some ⟨[(3,.rsl ((4,0),0,0) es.length 1 0 es.length)],[((4,0),.plain (.arr 1 es.length false ((clksP es es.length).map CD)))]⟩
 | 0,i,s,hi,hs => by
  have e : i = es.length:=by omega
  subst e
  apply ev_loop
  simp [hs]
 | m + 1,i,s,hi,hs => by
  have h1 : (i : Int) < es.length:=by omega
  have h2 : i < es.length:=by omega
  have ix : Ix i:=by unfold Ix; omega
  have hr : (i + 1) * 25 ≤ 1099511627776:=by omega
  have hx:=outsP_get es h2
  obtain ⟨_,hx2⟩:=List.getElem?_eq_some_iff.1 hx
  have ih:=fun s => loop23_0 es hl m (i + 1) s (by omega)
  rw [clksP_s] at ih
  simp only [List.map_append,List.map_cons,List.map_nil] at ih
  generalize (fun p : AEx × St => p.1 = .exit 0 ∧ hd [3] [] p.2 = some ⟨[(3,.rsl ((4,0),0,0) es.length 1 0 es.length)],[((4,0),.plain (.arr 1 es.length false ((clksP es es.length).map CD)))]⟩) = Q at ih ⊢
  apply ev_loop
  simp [hs,hx,hx2,h1,h2,ix,hr,SD]
  exact ih _ (by simp [hs,hx,hx2,h1,h2,ix,hr,SD])
theorem run23 (es : List Evt) (hIA : InA es) (hl : es.length < 900) : KR 23 [.dat (.sl (es.map ED))] [] = some (.dat (.sl (if okEvs es = true then (clksP es es.length).map CD else [])),[]):=by
 refine callT_ev (fn:=fn23) rfl rfl ?_
 have r40:=run40 es (by omega)
 by_cases ho : okEvs es = true
 ·have r45:=run45 es hIA hl ho
  rw [if_pos ho]
  simp [runFun_eq,r40,r45,ho]
  simp only [ev_bnd_iff]
  refine (loop23_0 es hl es.length 0 _ (by omega) (by simp [r40,r45,ho,clksP])).mono ?_
  rintro ⟨y,s⟩ ⟨rfl,hs⟩
  simp [hs]
 ·rw [if_neg ho]
  simp [runFun_eq,r40,ho]
end Go.Am.W

set_option maxRecDepth 10000
set_option maxHeartbeats 4000000
namespace Go.Am.W
open Go.Proofs Go.Rc
theorem run132' (ag idx kind obj mux ent ord rd wr : Int) : KR 132 [.dat (.agg [Nn ag,Nn idx,Nn kind,Nn obj,Nn mux,Nn ent,Nn ord,Nn rd,Nn wr])] [] = some (.dat (.int .i64 (mutexOf ⟨ag,idx,kind,obj,mux,ent,ord,rd,wr⟩)),[]):=by
 refine callT_ev (fn:=fn132) rfl rfl ?_
 by_cases h1 : kind = 9
 ·subst h1; simp [runFun_eq,mutexOf]
 by_cases h2 : kind = 10
 ·subst h2; simp [runFun_eq,mutexOf]
 by_cases h3 : kind = 11
 ·subst h3; simp [runFun_eq,mutexOf]
 simp [runFun_eq,mutexOf,h1,h2,h3]
theorem run133' (ag idx kind obj mux ent ord rd wr : Int) : KR 133 [.dat (.agg [Nn ag,Nn idx,Nn kind,Nn obj,Nn mux,Nn ent,Nn ord,Nn rd,Nn wr])] [] = some (.dat (.int .i64 (condOf ⟨ag,idx,kind,obj,mux,ent,ord,rd,wr⟩)),[]):=by
 refine callT_ev (fn:=fn133) rfl rfl ?_
 by_cases h1 : kind = 12
 ·subst h1; simp [runFun_eq,condOf]
 by_cases h2 : kind = 13
 ·subst h2; simp [runFun_eq,condOf]
 by_cases h3 : kind = 14
 ·subst h3; simp [runFun_eq,condOf]
 by_cases h4 : kind = 15
 ·subst h4; simp [runFun_eq,condOf]
 simp [runFun_eq,condOf,h1,h2,h3,h4]
theorem run134 (a : Int) (h : a < 9223372036854775808) : KR 134 [.dat (Nn a)] [] = some (.dat (.int .i64 (flu a)),[]):=by
 refine callT_ev (fn:=fn134) rfl rfl ?_
 by_cases h1 : a < 0
 ·simp [runFun_eq,flu,h1]
 ·have w1 : IntKind.wrap .i64 (0 - a) = -a:=by rw [Int.zero_sub]; exact wrap_i64_all (by omega) (by omega)
  have w2 : IntKind.wrap .i64 (-a - 1) = -a - 1:=wrap_i64_all (by omega) (by omega)
  have w3 : IntKind.wrap .i64 (-a) = -a:=wrap_i64_all (by omega) (by omega)
  simp [runFun_eq,flu,h1,w1,w2,w3]
def WQ (c : Bool) (p : AEx × St) : Prop:=(p.1 = .exit 0 ∧ c = false ∧ hd [] [] p.2 = some ⟨[],[]⟩) ∨ (p.1 = .ret ∧ hd [8] [] p.2 = some ⟨[(8,.dat (.bool c))],[]⟩)
theorem loop135 (es : List Evt) (hl : es.length < 1000000) (i : Nat) : ∀ (f : Nat) (v : Int) (s : St),v < f → v < es.length → -2 ≤ v →
  hd [0,1,2,9] [] s = some ⟨[(0,.dat (.sl (es.map ED))),(1,.dat (.sl (srcs es es.length))),(2,.dat (.int .i64 i)),(9,.dat (.int .i64 v))],[]⟩ →
  Ev (loopLim (exec KR l135_0) s) (WQ ((chain (at' es) f v).contains i))
 | 0,v,s,hf,hv,hv2,hs => by
  have h1 : ¬ 0 ≤ v:=by omega
  apply ev_loop
  simp [hs,chain,h1,WQ]
 | f + 1,v,s,hf,hv,hv2,hs => by
  by_cases h0 : 0 ≤ v
  ·obtain ⟨m,rfl⟩ : ∃ m : Nat,v = m:=⟨v.toNat,by omega⟩
   have hm : m < es.length:=by omega
   obtain ⟨x,hx⟩ : ∃ x,es[m]? = some x:=⟨_,at_get hm⟩
   have hat:=at_of hx
   obtain ⟨_,hx2⟩:=List.getElem?_eq_some_iff.1 hx
   have hsr:=srcs_get es hm
   have hsr':=srcs_get' es hm
   have hlt:=src_lt (at' es) m
   have hge:=src_ge (at' es) m
   have e : chain (at' es) (f + 1) (m : Int) = m :: if (at' es m).kind = 5 then chain (at' es) f (src (at' es) m) else []:=by
    simp only [chain]
    rw [if_neg (by omega)]
    simp
   rw [e,hat]
   generalize hw : src (at' es) m = w at hsr hsr' hlt hge
   have ih:=fun s => loop135 es hl i f w s (by omega) (by omega) hge
   obtain ⟨ag,idx,kind,obj,mux,ent,ord,rd,wr⟩:=x
   by_cases hmi : m = i
   ·subst hmi
    apply ev_loop
    simp [hs,WQ]
   ·have hmi' : ¬ i = m:=fun h => hmi h.symm
    by_cases h5 : kind = 5
    ·subst h5
     have e2 : (m :: if (5 : Int) = 5 then chain (at' es) f w else []).contains i = (chain (at' es) f w).contains i:=by simp [hmi']
     simp only at e2 ⊢
     rw [e2]
     generalize (WQ ((chain (at' es) f w).contains i)) = Q at ih ⊢
     apply ev_loop
     simp [hs,hx,hx2,hsr,hsr',srcs_len,hm,ED_mk,hmi]
     exact ih _ (by simp [hs,hx,hx2,hsr,hsr',srcs_len,hm,ED_mk,hmi])
    ·apply ev_loop
     simp [hs,hx,hx2,hm,ED_mk,hmi,hmi',h5,WQ]
  ·have e : chain (at' es) (f + 1) v = []:=by
    simp only [chain]
    rw [if_pos (by omega)]
   rw [e]
   apply ev_loop
   simp [hs,h0,WQ]
theorem run135 (es : List Evt) (hl : es.length < 1000000) (hv : es.all vld = true) (i k : Nat) (hi : i < es.length) (hk : k < es.length) : KR 135 [.dat (.sl (es.map ED)),.dat (.sl (srcs es es.length)),.dat (.int .i64 i),.dat (.int .i64 k)] [] = some (.dat (.bool (withR (at' es) i k)),[]):=by
 obtain ⟨x,hx⟩ : ∃ x,es[i]? = some x:=⟨_,at_get hi⟩
 obtain ⟨y,hy⟩ : ∃ y,es[k]? = some y:=⟨_,at_get hk⟩
 have hat:=at_of hx
 have hat':=at_of hy
 have hyv:=List.all_eq_true.1 hv y (List.mem_of_getElem? hy)
 obtain ⟨_,hx2⟩:=List.getElem?_eq_some_iff.1 hx
 obtain ⟨_,hy2⟩:=List.getElem?_eq_some_iff.1 hy
 have hsr:=srcs_get es hk
 have hsr':=srcs_get' es hk
 have hlt:=src_lt (at' es) k
 have hge:=src_ge (at' es) k
 unfold withR
 rw [hat,hat']
 generalize hw : src (at' es) k = w at hsr hsr' hlt hge
 obtain ⟨ag,idx,kind,obj,mux,ent,ord,rd,wr⟩:=x
 obtain ⟨ag',idx',kind',obj',mux',ent',ord',rd',wr'⟩:=y
 refine callT_ev (fn:=fn135) rfl rfl ?_
 by_cases h1 : kind = 2 ∨ kind = 3 ∨ kind = 5
 rotate_left
 ·simp [runFun_eq,hx,hx2,hi,ED_mk,run68',h1,rel,Evt.puts]
 by_cases h2 : ord = 2
 rotate_left
 ·simp [runFun_eq,hx,hx2,hi,ED_mk,run68',h1,h2,rel,Evt.puts]
 subst h2
 by_cases h3 : readsK kind' = true
 rotate_left
 ·simp [runFun_eq,hx,hx2,hi,hy,hy2,hk,ED_mk,run68',run78',hyv,h1,h3,rel,acq,Evt.puts,Evt.reads]
 by_cases h4 : ord' = 2
 rotate_left
 ·simp [runFun_eq,hx,hx2,hi,hy,hy2,hk,ED_mk,run68',run78',hyv,h1,h3,h4,rel,acq,Evt.puts,Evt.reads]
 subst h4
 simp [runFun_eq,hx,hx2,hi,hy,hy2,hk,ED_mk,run68',run78',hyv,h1,h3,rel,acq,Evt.puts,Evt.reads,hsr,hsr',srcs_len]
 simp only [ev_bnd_iff]
 refine (loop135 es hl i k w _ (by omega) (by omega) hge (by simp [hx,hx2,hi,hy,hy2,hk,ED_mk,run68',run78',hyv,h1,h3,hsr,hsr',srcs_len])).mono ?_
 rintro ⟨z,s⟩ (⟨rfl,hc,hs⟩ | ⟨rfl,hs⟩)
 ·have hc' : i ∉ chain (at' es) k w:=by simpa using hc
  simp [hs,hc']
 ·simp [endK_hd (res:=[.t 8]) (live:=[8]) (keep:=false) (m:=0) (by simp [AR.slot]) hs]
end Go.Am.W

set_option maxRecDepth 10000
set_option maxHeartbeats 4000000
namespace Go.Am.W
open Go.Proofs Go.Rc
theorem hd_sub {live live' : List Nat} {s : St} {env : Env} {objs : TStore} (h : hd live [] s = some ⟨env,objs⟩) (hsub : ∀ t ∈ live',t ∈ live) : hd live' [] s = some ⟨restrict live' env,objs⟩:=by
 have h : (⟨restrict live s.env,s.objs⟩ : St) = ⟨env,objs⟩:=Option.some.inj h
 injection h with h1 h2
 have e : restrict live' s.env = restrict live' (restrict live s.env):=by
  induction live' with
  | nil => rfl
  | cons t r ih =>
   rw [restrict_cons,restrict_cons,ih fun x hx => hsub x (by simp [hx]),gE_restrict,if_pos (hsub t (by simp))]
 show some (⟨restrict live' s.env,s.objs⟩ : St) = _
 rw [e,h1,h2]
abbrev EB (es : List Evt) (i k : Nat) : Env:=[(0,.dat (.sl (es.map ED))),(1,.dat (.sl (srcs es es.length))),(2,.dat (.int .i64 i)),(3,.dat (.int .i64 k)),(9,.ref ((10,0),0,0) 0),(10,.ref ((11,0),0,0) 0)]
abbrev OB (a b : Evt) : TStore:=[((10,0),bxE a),((11,0),bxE b)]
def Stg (B : Bool) (es : List Evt) (i k : Nat) (a b : Evt) (p : AEx × St) : Prop :=
 (B = true ∧ p.1 = .ret ∧ hd [8] [] p.2 = some ⟨[(8,.dat (.bool true))],OB a b⟩) ∨ (B = false ∧ p.1 = .normal ∧ hd [0,1,2,3,9,10] [] p.2 = some ⟨EB es i k,OB a b⟩)
def s89a : AC:=.seq (.reg r89_2) (.cond (.t 47) (.seq (.reg r89_3) (.ret)) (.skip))
def s89b : AC:=.seq (.reg r89_4) (.cond (.t 81) (.seq (.reg r89_5) (.ret)) (.skip))
def s89c : AC:=.seq (.reg r89_6) (.cond (.t 104) (.seq (.reg r89_7) (.ret)) (.skip))
section
variable (es : List Evt) (i k : Nat) (ag idx kind obj mux ent ord rd wr ag' idx' kind' obj' mux' ent' ord' rd' wr' : Int)
def dirA (a b : Evt) : Bool:=decide (a.ag = b.ag) || (decide (0 ≤ mutexOf a) && decide (mutexOf a = mutexOf b)) || (decide (0 ≤ condOf a) && decide (condOf a = condOf b))
def dirB (a b : Evt) : Bool:=(decide (a.kind = 16) && (decide (a.obj = b.ag) || (decide (b.kind = 17) && decide (a.obj = b.obj)))) || (decide (b.kind = 17) && decide (b.obj = a.ag))
def dirC (a b : Evt) : Bool:=decide (a.kind = 3) && decide (b.kind = 4) && decide (b.ag = flu a.ag) && decide (a.ent = b.ent)
theorem stgA (s : St) (hs : hd [0,1,2,3,9,10] [] s = some ⟨EB es i k,OB ⟨ag,idx,kind,obj,mux,ent,ord,rd,wr⟩ ⟨ag',idx',kind',obj',mux',ent',ord',rd',wr'⟩⟩) :
  Ev (exec KR s89a s) (Stg (dirA ⟨ag,idx,kind,obj,mux,ent,ord,rd,wr⟩ ⟨ag',idx',kind',obj',mux',ent',ord',rd',wr'⟩) es i k ⟨ag,idx,kind,obj,mux,ent,ord,rd,wr⟩ ⟨ag',idx',kind',obj',mux',ent',ord',rd',wr'⟩):=by
 have r1:=run132' ag idx kind obj mux ent ord rd wr
 have r2:=run132' ag' idx' kind' obj' mux' ent' ord' rd' wr'
 have r3:=run133' ag idx kind obj mux ent ord rd wr
 have r4:=run133' ag' idx' kind' obj' mux' ent' ord' rd' wr'
 unfold s89a Stg dirA
 generalize mutexOf ⟨ag,idx,kind,obj,mux,ent,ord,rd,wr⟩ = m1 at *
 generalize mutexOf ⟨ag',idx',kind',obj',mux',ent',ord',rd',wr'⟩ = m2 at *
 generalize condOf ⟨ag,idx,kind,obj,mux,ent,ord,rd,wr⟩ = c1 at *
 generalize condOf ⟨ag',idx',kind',obj',mux',ent',ord',rd',wr'⟩ = c2 at *
 by_cases h1 : ag = ag'
 ·subst h1
  simp [hs]
 by_cases h2 : 0 ≤ m1
 ·by_cases h3 : m1 = m2
  ·subst h3
   simp [hs,h1,h2,r1,r2]
  ·by_cases h4 : 0 ≤ c1
   ·by_cases h5 : c1 = c2
    ·subst h5
     simp [hs,h1,h2,h3,h4,r1,r2,r3,r4]
    ·simp [hs,h1,h2,h3,h4,h5,r1,r2,r3,r4]
   ·simp [hs,h1,h2,h3,h4,r1,r2,r3,r4]
 ·by_cases h4 : 0 ≤ c1
  ·by_cases h5 : c1 = c2
   ·subst h5
    simp [hs,h1,h2,h4,r1,r2,r3,r4]
   ·simp [hs,h1,h2,h4,h5,r1,r2,r3,r4]
  ·simp [hs,h1,h2,h4,r1,r2,r3,r4]
theorem stgB (s : St) (hs : hd [0,1,2,3,9,10] [] s = some ⟨EB es i k,OB ⟨ag,idx,kind,obj,mux,ent,ord,rd,wr⟩ ⟨ag',idx',kind',obj',mux',ent',ord',rd',wr'⟩⟩) :
  Ev (exec KR s89b s) (Stg (dirB ⟨ag,idx,kind,obj,mux,ent,ord,rd,wr⟩ ⟨ag',idx',kind',obj',mux',ent',ord',rd',wr'⟩) es i k ⟨ag,idx,kind,obj,mux,ent,ord,rd,wr⟩ ⟨ag',idx',kind',obj',mux',ent',ord',rd',wr'⟩):=by
 unfold s89b Stg dirB
 have fin : ∀ (h : ¬ (kind = 16 ∧ (obj = ag' ∨ kind' = 17 ∧ obj = obj'))),True:=fun _ => trivial
 by_cases h1 : kind = 16
 ·subst h1
  by_cases h2 : obj = ag'
  ·subst h2
   simp [hs]
  ·by_cases h3 : kind' = 17
   ·subst h3
    by_cases h4 : obj = obj'
    ·subst h4
     simp [hs,h2]
    ·by_cases h5 : obj' = ag
     ·subst h5
      simp [hs,h2,h4]
     ·simp [hs,h2,h4,h5]
   ·simp [hs,h2,h3]
 ·by_cases h3 : kind' = 17
  ·subst h3
   by_cases h5 : obj' = ag
   ·subst h5
    simp [hs,h1]
   ·simp [hs,h1,h5]
  ·simp [hs,h1,h3]
theorem stgC (hag : ag < 9223372036854775808) (s : St) (hs : hd [0,1,2,3,9,10] [] s = some ⟨EB es i k,OB ⟨ag,idx,kind,obj,mux,ent,ord,rd,wr⟩ ⟨ag',idx',kind',obj',mux',ent',ord',rd',wr'⟩⟩) :
  Ev (exec KR s89c s) (Stg (dirC ⟨ag,idx,kind,obj,mux,ent,ord,rd,wr⟩ ⟨ag',idx',kind',obj',mux',ent',ord',rd',wr'⟩) es i k ⟨ag,idx,kind,obj,mux,ent,ord,rd,wr⟩ ⟨ag',idx',kind',obj',mux',ent',ord',rd',wr'⟩):=by
 unfold s89c Stg dirC
 have r:=run134 ag hag
 by_cases h1 : kind = 3
 ·subst h1
  by_cases h2 : kind' = 4
  ·subst h2
   by_cases h3 : ag' = flu ag
   ·subst h3
    by_cases h4 : ent = ent'
    ·subst h4
     simp [hs,r]
    ·simp [hs,r,h4]
   ·simp [hs,r,h3]
  ·simp [hs,h2]
 ·simp [hs,h1]
end
theorem direct_eq (e : Nat → Evt) (i k : Nat) : direct e i k = (dirA (e i) (e k) || dirB (e i) (e k) || dirC (e i) (e k) || withR e i k):=by
 unfold direct dirA dirB dirC
 simp only [Bool.or_assoc]
theorem run89 (es : List Evt) (hIA : InA es) (hl : es.length < 1000000) (hv : es.all vld = true) (i k : Nat) (hi : i < es.length) (hk : k < es.length) : KR 89 [.dat (.sl (es.map ED)),.dat (.sl (srcs es es.length)),.dat (.int .i64 i),.dat (.int .i64 k)] [] = some (.dat (.bool (direct (at' es) i k)),[]):=by
 obtain ⟨x,hx⟩ : ∃ x,es[i]? = some x:=⟨_,at_get hi⟩
 obtain ⟨y,hy⟩ : ∃ y,es[k]? = some y:=⟨_,at_get hk⟩
 have hat:=at_of hx
 have hat':=at_of hy
 have hxa:=(hIA x (List.mem_of_getElem? hx)).2
 obtain ⟨_,hx2⟩:=List.getElem?_eq_some_iff.1 hx
 obtain ⟨_,hy2⟩:=List.getElem?_eq_some_iff.1 hy
 have r:=run135 es hl hv i k hi hk
 have hi' : (i : Int) < es.length:=by omega
 have hk' : (k : Int) < es.length:=by omega
 rw [direct_eq,hat,hat']
 generalize withR (at' es) i k = W at *
 obtain ⟨ag,idx,kind,obj,mux,ent,ord,rd,wr⟩:=x
 obtain ⟨ag',idx',kind',obj',mux',ent',ord',rd',wr'⟩:=y
 refine callT_ev (fn:=⟨4,[.t 8],false,.seq (.reg r89_0) (.seq (.reg r89_1) (.seq s89a (.seq s89b (.seq s89c (.seq (.reg r89_8) (.ret)))))),none⟩) rfl rfl ?_
 simp [runFun_eq,hx,hx2,hi,hi',hy,hy2,hk,hk',ED_mk]
 simp only [ev_bnd_iff]
 refine (stgA es i k ag idx kind obj mux ent ord rd wr ag' idx' kind' obj' mux' ent' ord' rd' wr' _ (by simp [hx,hx2,hi,hi',hy,hy2,hk,hk',ED_mk])).mono ?_
 rintro ⟨z,s1⟩ (⟨e1,rfl,hs1⟩ | ⟨e1,rfl,hs1⟩)
 ·rw [e1]
  simp [endK_hd (res:=[.t 8]) (live:=[8]) (keep:=false) (m:=0) (by simp [AR.slot]) hs1]
 rw [e1]
 simp only [seqK_n,exec_seq,ev_bnd_iff]
 refine (stgB es i k ag idx kind obj mux ent ord rd wr ag' idx' kind' obj' mux' ent' ord' rd' wr' _ hs1).mono ?_
 rintro ⟨z,s2⟩ (⟨e2,rfl,hs2⟩ | ⟨e2,rfl,hs2⟩)
 ·rw [e2]
  simp [endK_hd (res:=[.t 8]) (live:=[8]) (keep:=false) (m:=0) (by simp [AR.slot]) hs2]
 rw [e2]
 simp only [seqK_n,exec_seq,ev_bnd_iff]
 refine (stgC es i k ag idx kind obj mux ent ord rd wr ag' idx' kind' obj' mux' ent' ord' rd' wr' hxa _ hs2).mono ?_
 rintro ⟨z,s3⟩ (⟨e3,rfl,hs3⟩ | ⟨e3,rfl,hs3⟩)
 ·rw [e3]
  simp [endK_hd (res:=[.t 8]) (live:=[8]) (keep:=false) (m:=0) (by simp [AR.slot]) hs3]
 rw [e3]
 have hs4:=hd_sub (live':=[0,1,2,3]) hs3 (by simp)
 simp only at hs4
 simp [hs4,r]
end Go.Am.W

set_option maxRecDepth 10000
set_option maxHeartbeats 4000000
namespace Go.Am.W
open Go.Proofs Go.Rc
def rowL (f : Nat → Bool) (n : Nat) : List Dat:=(List.range n).map fun j => .bool (f j)
@[simp] theorem rowL_len (f : Nat → Bool) (n : Nat) : (rowL f n).length = n:=by simp [rowL]
theorem rowL_get (f : Nat → Bool) {n j : Nat} (h : j < n) : (rowL f n)[j]? = some (.bool (f j)):=by simp [rowL,h]
theorem rowL_get' (f : Nat → Bool) {n j : Nat} (h : j < (rowL f n).length) : (rowL f n)[j] = .bool (f j):=by simp [rowL]
theorem rowL_congr {f g : Nat → Bool} {n : Nat} (h : ∀ j,j < n → f j = g j) : rowL f n = rowL g n:=by
 unfold rowL
 apply List.map_congr_left
 intro j hj
 rw [h j (List.mem_range.1 hj)]
theorem rowL_set (f : Nat → Bool) (n i : Nat) (b : Bool) : (rowL f n).set i (.bool b) = rowL (fun j => if j = i then b else f j) n:=by
 apply List.ext_getElem?
 intro j
 rw [List.getElem?_set]
 by_cases hj : j < n
 ·rw [rowL_get _ hj,rowL_get _ hj]
  by_cases hij : i = j
  ·subst hij; simp [hj]
  ·have : ¬ j = i:=fun h => hij h.symm
   simp [hij,this]
 ·have h1 : (rowL f n)[j]? = none:=List.getElem?_eq_none (by simp; omega)
  have h2 : (rowL (fun j => if j = i then b else f j) n)[j]? = none:=List.getElem?_eq_none (by simp; omega)
  rw [h1,h2]
  by_cases hij : i = j
  ·subst hij; simp; omega
  ·simp [hij]
theorem rowL_false (n : Nat) : List.replicate n (Dat.bool false) = rowL (fun _ => false) n:=by
 apply List.ext_getElem?
 intro j
 by_cases hj : j < n
 ·rw [rowL_get _ hj]; simp [hj]
 ·rw [List.getElem?_eq_none (by simp; omega),List.getElem?_eq_none (by simp; omega)]
def bfr (es : List Evt) (m j : Nat) : Bool:=bef (direct (at' es)) m j
def rowC (f : Nat → Bool) (n : Nat) : Cell:=.own true false 1 (rowL f n)
def famC (es : List Evt) (k : Nat) : List Cell:=(List.range k).map fun j => rowC (fun m => bfr es m j) es.length
@[simp] theorem famC_len (es : List Evt) (k : Nat) : (famC es k).length = k:=by simp [famC]
theorem famC_get (es : List Evt) {k j : Nat} (h : j < k) : (famC es k)[j]? = some (rowC (fun m => bfr es m j) es.length):=by simp [famC,h]
theorem famC_s (es : List Evt) (k : Nat) : famC es (k + 1) = famC es k ++ [rowC (fun m => bfr es m k) es.length]:=by simp [famC,List.range_succ]
abbrev E6 (es : List Evt) (ve k i : Nat) : Env:=[(0,.dat (.sl (es.map ED))),(3,.dat (.sl (srcs es es.length))),(4,.rsl ((5,0),0,0) ve 1 0 k),(5,.dat (.int .i64 k)),(6,.rsl ((21,0),0,0) 0 1 0 es.length),(7,.dat (.int .i64 i))]
abbrev O6 (es : List Evt) (ve pv k : Nat) (f : Nat → Bool) : TStore:=[((5,0),.fam ve pv false (famC es k)),((21,0),.plain (.arr 1 0 false (rowL f es.length)))]
def fI (es : List Evt) (f : Nat → Bool) (i t : Nat) : Nat → Bool:=fun j => if j < t then f j || bfr es j i else f j
theorem loop46_0 (es : List Evt) (hl : es.length < 1000000) (ve pv k i : Nat) (hk : k < es.length) (hik : i < k) (f : Nat → Bool) : ∀ (m t : Nat) (s : St),t + m = i →
  hd [0,3,4,5,6,7,8] [] s = some ⟨E6 es ve k i ++ [(8,.dat (.int .i64 t))],O6 es ve pv k (fI es f i t)⟩ →
  Ev (loopLim (exec KR l46_0) s) fun p => p.1 = .exit 4 ∧ hd [0,3,4,5,6,7] [] p.2 = some ⟨E6 es ve k i,O6 es ve pv k (fI es f i i)⟩
 | 0,t,s,ht,hs => by
  have e : t = i:=by omega
  subst e
  apply ev_loop
  simp [hs]
 | m + 1,t,s,ht,hs => by
  have h1 : (t : Int) < i:=by omega
  have h2 : t < es.length:=by omega
  have h3 : t < i:=by omega
  have h4 : (i : Int) < k:=by omega
  have h5 : (t : Int) < es.length:=by omega
  have ix : Ix t:=by unfold Ix; omega
  have hg:=rowL_get (fI es f i t) h2
  have hg2 : (rowL (fI es f i t) es.length)[t]'(by simpa using h2) = .bool (fI es f i t t):=rowL_get' _ _
  have hc:=famC_get es hik
  obtain ⟨_,hc2⟩:=List.getElem?_eq_some_iff.1 hc
  have hrow : (rowsA (5,0) pv 0 (famC es k))[i]? = some [.rsl ((5,0),i + 1,0) pv 1 0 es.length]:=by rw [rowsA_at,hc]; simp [rowC,cellA]
  obtain ⟨_,hrow2⟩:=List.getElem?_eq_some_iff.1 hrow
  have hr:=rowL_get (fun m => bfr es m i) h2
  have hr2 : (rowL (fun m => bfr es m i) es.length)[t]'(by simpa using h2) = .bool (bfr es t i):=rowL_get' _ _
  have hset : ∀ b,(fI es f i t t || bfr es t i) = b → (rowL (fI es f i t) es.length).set t (.bool b) = rowL (fI es f i (t + 1)) es.length:=by
   rintro b rfl
   rw [rowL_set]
   apply rowL_congr
   intro j _
   simp only [fI]
   by_cases hj : j = t
   ·subst hj; simp
   ·by_cases hj2 : j < t
    ·have : j < t + 1:=by omega
     simp [hj,hj2,this]
    ·have : ¬ j < t + 1:=by omega
     simp [hj,hj2,this]
  have ih:=fun s => loop46_0 es hl ve pv k i hk hik f m (t + 1) s (by omega)
  generalize (fun p : AEx × St => p.1 = .exit 4 ∧ hd [0,3,4,5,6,7] [] p.2 = some ⟨E6 es ve k i,O6 es ve pv k (fI es f i i)⟩) = Q at ih ⊢
  apply ev_loop
  cases hb : fI es f i t t with
  | true =>
   rw [hb] at hg hg2
   have hs2:=hset true (by rw [hb]; rfl)
   simp [hs,h1,h2,h3,h5,ix,hg,hg2,hs2]
   exact ih _ (by simp [hs,h1,h2,h3,h5,ix,hg,hg2,hs2])
  | false =>
   rw [hb] at hg hg2
   have hs2:=hset (bfr es t i) (by rw [hb]; rfl)
   simp [hs,h1,h2,h3,h4,h5,hik,ix,hg,hg2,hs2,hc,hc2,hrow,hrow2,rowC,cellA,kidO,hr,hr2]
   exact ih _ (by simp [hs,h1,h2,h3,h4,h5,hik,ix,hg,hg2,hs2,hc,hc2,hrow,hrow2,rowC,cellA,kidO,hr,hr2])
end Go.Am.W

set_option maxRecDepth 10000
set_option maxHeartbeats 4000000
namespace Go.Am.W
open Go.Proofs Go.Rc
def rT (r : Nat → Bool) (i : Nat) : Nat → Bool:=fun j => if j = i then true else r j
def rS (es : List Evt) (k i : Nat) : Nat → Bool:=fun j => (List.range i).any fun m => direct (at' es) m k && (decide (j = m) || bfr es j m)
theorem rS_zero (es : List Evt) (k : Nat) : rS es k 0 = fun _ => false:=by funext j; simp [rS]
theorem rS_s (es : List Evt) (k i j : Nat) : rS es k (i + 1) j = (rS es k i j || (direct (at' es) i k && (decide (j = i) || bfr es j i))):=by
 simp [rS,List.range_succ]
theorem rS_all (es : List Evt) (k j : Nat) : rS es k k j = bfr es j k:=by
 apply Bool.eq_iff_iff.2
 unfold bfr
 rw [bef_iff]
 simp only [rS,List.any_eq_true,List.mem_range,Bool.and_eq_true,Bool.or_eq_true,decide_eq_true_eq]
 constructor
 ·rintro ⟨m,hm,hd,rfl | hb⟩
  ·exact ⟨hm,.inl hd⟩
  ·have:=bef_lt _ hb
   exact ⟨by omega,.inr ⟨m,hm,hd,hb⟩⟩
 ·rintro ⟨hj,hd | ⟨m,hm,hd,hb⟩⟩
  ·exact ⟨j,hj,hd,.inl rfl⟩
  ·exact ⟨m,hm,hd,.inr hb⟩
theorem fI_zero (es : List Evt) (f : Nat → Bool) (i : Nat) : fI es f i 0 = f:=by funext j; simp [fI]
theorem fI_rS (es : List Evt) (k i : Nat) (hd : direct (at' es) i k = true) (n : Nat) : rowL (fI es (rT (rS es k i) i) i i) n = rowL (rS es k (i + 1)) n:=by
 apply rowL_congr
 intro j _
 rw [rS_s,hd]
 simp only [fI,rT]
 have hb : i ≤ j → bfr es j i = false:=fun h => by
  cases hb : bfr es j i with
  | false => rfl
  | true => have:=bef_lt _ hb; omega
 by_cases h1 : j < i
 ·have h2 : ¬ j = i:=by omega
  simp [h1,h2]
 ·rw [if_neg h1,hb (by omega)]
  by_cases h2 : j = i <;> simp [h2]
theorem loop46_1 (es : List Evt) (hIA : InA es) (hv : es.all vld = true) (hl : es.length < 1000000) (ve pv k : Nat) (hk : k < es.length) : ∀ (m i : Nat) (s : St),i + m = k →
  hd [0,3,4,5,6,7] [] s = some ⟨E6 es ve k i,O6 es ve pv k (rS es k i)⟩ →
  Ev (loopLim (exec KR l46_1) s) fun p => p.1 = .exit 2 ∧ hd [0,3,4,5,6] [] p.2 = some ⟨[(0,.dat (.sl (es.map ED))),(3,.dat (.sl (srcs es es.length))),(4,.rsl ((5,0),0,0) ve 1 0 k),(5,.dat (.int .i64 k)),(6,.rsl ((21,0),0,0) 0 1 0 es.length)],O6 es ve pv k (rS es k k)⟩
 | 0,i,s,hi,hs => by
  have e : i = k:=by omega
  subst e
  apply ev_loop
  simp [hs]
 | m + 1,i,s,hi,hs => by
  have h1 : (i : Int) < k:=by omega
  have h2 : i < es.length:=by omega
  have h3 : (i : Int) < es.length:=by omega
  have h4 : i < k:=by omega
  have ix : Ix i:=by unfold Ix; omega
  have r:=run89 es hIA hl hv i k h2 hk
  have ih:=fun s => loop46_1 es hIA hv hl ve pv k hk m (i + 1) s (by omega)
  generalize (fun p : AEx × St => p.1 = .exit 2 ∧ hd [0,3,4,5,6] [] p.2 = some ⟨[(0,.dat (.sl (es.map ED))),(3,.dat (.sl (srcs es es.length))),(4,.rsl ((5,0),0,0) ve 1 0 k),(5,.dat (.int .i64 k)),(6,.rsl ((21,0),0,0) 0 1 0 es.length)],O6 es ve pv k (rS es k k)⟩) = Q at ih ⊢
  apply ev_loop
  cases hd : direct (at' es) i k with
  | true =>
   rw [hd] at r
   have hg:=rowL_get (rS es k i) h2
   have hg2 : (rowL (rS es k i) es.length)[i]'(by simpa using h2) = .bool (rS es k i i):=rowL_get' _ _
   have hset : (rowL (rS es k i) es.length).set i (.bool true) = rowL (rT (rS es k i) i) es.length:=rowL_set (rS es k i) es.length i true
   simp [hs,h1,h2,h3,h4,ix,r,hset,hg,hg2]
   simp only [ev_bnd_iff]
   refine (loop46_0 es hl ve pv k i hk h4 (rT (rS es k i) i) i 0 _ (by omega) (by simp [hs,h1,h2,h3,h4,ix,r,hset,hg,hg2,fI_zero])).mono ?_
   rintro ⟨y,s⟩ ⟨rfl,hs⟩
   rw [O6,fI_rS es k i hd] at hs
   simp [hs,ix]
   exact ih _ (by simp [hs,ix])
  | false =>
   rw [hd] at r
   have e : rS es k (i + 1) = rS es k i:=by funext j; rw [rS_s,hd]; simp
   rw [e] at ih
   simp [hs,h1,h2,h3,h4,ix,r]
   exact ih _ (by simp [hs,h1,h2,h3,h4,ix,r])
abbrev E46 (es : List Evt) (k : Nat) (v : AVal) : Env:=[(0,.dat (.sl (es.map ED))),(3,.dat (.sl (srcs es es.length))),(4,v),(5,.dat (.int .i64 k))]
def OQ (es : List Evt) (p : AEx × St) : Prop:=p.1 = .exit 0 ∧ ∃ ve pv,hd [4] [] p.2 = some ⟨[(4,.rsl ((5,0),0,0) ve 1 0 es.length)],[((5,0),.fam ve pv false (famC es es.length))]⟩
theorem loop46_2 (es : List Evt) (hIA : InA es) (hv : es.all vld = true) (hl : es.length < 1000000) : ∀ (m k ve pv : Nat) (s : St),k + m = es.length →
  hd [0,3,4,5] [0,3,4] s = some ⟨E46 es k (.rsl ((5,0),0,0) ve 1 0 k),[((5,0),.fam ve pv false (famC es k))]⟩ →
  Ev (loopLim (exec KR l46_2) s) (OQ es)
 | 0,k,ve,pv,s,hk,hs => by
  have e : k = es.length:=by omega
  subst e
  apply ev_loop
  unfold OQ
  simp [hs]
 | m + 1,k,ve,pv,s,hk,hs => by
  have h1 : (k : Int) < es.length:=by omega
  have h2 : k < es.length:=by omega
  have ix : Ix k:=by unfold Ix; omega
  have hr : (k + 1) * 25 ≤ 1099511627776:=by omega
  have hr2 : (es.length : Int) ≤ 1099511627776:=by omega
  have hz:=rowL_false es.length
  have ih:=fun s => loop46_2 es hIA hv hl m (k + 1) (ve + 1) (pv + 1) s (by omega)
  rw [famC_s] at ih
  simp only [rowC] at ih
  have e : rowL (rS es k k) es.length = rowL (fun m => bfr es m k) es.length:=rowL_congr fun j _ => rS_all es k j
  generalize OQ es = Q at ih ⊢
  apply ev_loop
  simp [hs,h1,h2,hz,hr2]
  simp only [ev_bnd_iff]
  refine (loop46_1 es hIA hv hl ve pv k h2 k 0 _ (by omega) (by simp [hs,h1,h2,hz,hr2,rS_zero])).mono ?_
  rintro ⟨y,s⟩ ⟨rfl,hs⟩
  rw [O6,e] at hs
  simp [hs,hr,ix,appF,cellIn]
  exact ih _ (by simp [hs,hr,ix,appF,cellIn])
end Go.Am.W

set_option maxRecDepth 10000
set_option maxHeartbeats 4000000
namespace Go.Am.W
open Go.Proofs Go.Rc
def ordD (es : List Evt) : List Dat:=(List.range es.length).map fun k => .sl (rowL (fun m => bfr es m k) es.length)
@[simp] theorem ordD_len (es : List Evt) : (ordD es).length = es.length:=by simp [ordD]
theorem famC_dat (es : List Evt) : (famC es es.length).map Cell.dat = ordD es:=by simp [famC,ordD,rowC,Cell.dat,Function.comp_def]
theorem run46 (es : List Evt) (hIA : InA es) (hl : es.length < 900) (ho : okEvs es = true) : KR 46 [.dat (.sl (es.map ED))] [] = some (.dat (.sl (ordD es)),[]):=by
 have hv:=okEvs_all ho
 have r21:=run21 es hIA (by omega)
 rw [if_pos ho] at r21
 refine callT_ev (fn:=fn46) rfl rfl ?_
 simp [runFun_eq,r21]
 simp only [ev_bnd_iff]
 by_cases h0 : es.length = 0
 ·have e : es = []:=List.eq_nil_of_length_eq_zero h0
  subst e
  apply ev_loop
  simp [ordD]
 ·have h1 : 0 < es.length:=by omega
  have hr2 : (es.length : Int) ≤ 1099511627776:=by omega
  have hz:=rowL_false es.length
  have e : rowL (fun _ => false) es.length = rowL (fun m => bfr es m 0) es.length:=rowL_congr fun j _ => by
   cases hb : bfr es j 0 with
   | false => rfl
   | true => have:=bef_lt _ hb; omega
  have hc : famC es 1 = [rowC (fun m => bfr es m 0) es.length]:=rfl
  simp only [rowC] at hc
  have hd:=famC_dat es
  have hfr : (∀ (x : Cell),x ∈ famC es es.length → x.fresh = true) ↔ True:=by
   refine iff_true_intro fun x hx => ?_
   obtain ⟨j,_,rfl⟩:=List.mem_map.1 hx
   rfl
  unfold Cell.fresh at hfr
  have fin:=fun s => loop46_2 es hIA hv (by omega) (es.length - 1) 1 0 0 s (by omega)
  rw [hc] at fin
  apply ev_loop
  simp [h1,hz,hr2,r21,appF,cellIn]
  simp only [ev_bnd_iff]
  apply ev_loop
  simp [h1,hz,hr2,r21,appF,cellIn,e]
  refine (fin _ (by simp [h1,hz,hr2,r21,appF,cellIn,e])).mono ?_
  rintro ⟨y,s⟩ ⟨rfl,ve,pv,hs⟩
  simp [hs,hd,hfr]
def refI (es : List Evt) (k i : Nat) : Clk:=(List.range i).foldl (fun c j => if bfr es j k then adv c (at' es j).ag else c) (adv [] (at' es k).ag)
theorem refI_s (es : List Evt) (k i : Nat) : refI es k (i + 1) = if bfr es i k = true then adv (refI es k i) (at' es i).ag else refI es k i:=by simp [refI,List.range_succ]
theorem refI_all (es : List Evt) (k : Nat) : refI es k k = refClk (direct (at' es)) (fun i => (at' es i).ag) k:=rfl
theorem refI_ok (es : List Evt) (k i : Nat) : ok (1 + i) none (refI es k i):=by
 have:=(fold_ok (fun i => (at' es i).ag) k (fun j => bfr es j k) i (adv [] (at' es k).ag) 1 (by omega) ⟨by simp,by omega,by omega,trivial⟩).1
 exact this
theorem refI_len (es : List Evt) (k i : Nat) : (refI es k i).length ≤ i + 1:=by
 have:=fold_len (fun i => (at' es i).ag) (fun j => bfr es j k) (List.range i) (adv [] (at' es k).ag)
 simp only [refI]
 simp [adv] at this ⊢
 omega
def refsP (es : List Evt) (n : Nat) : List Clk:=(List.range n).map fun k => refI es k k
@[simp] theorem refsP_len (es : List Evt) (n : Nat) : (refsP es n).length = n:=by simp [refsP]
theorem refsP_s (es : List Evt) (n : Nat) : refsP es (n + 1) = refsP es n ++ [refI es n n]:=by simp [refsP,List.range_succ]
theorem ordD_get (es : List Evt) {k : Nat} (h : k < es.length) : (ordD es)[k]? = some (.sl (rowL (fun m => bfr es m k) es.length)):=by simp [ordD,h]
abbrev E24 (es : List Evt) (k : Nat) : Env:=[(0,.dat (.sl (es.map ED))),(3,.dat (.sl (ordD es))),(4,.rsl ((5,0),0,0) k 1 0 k),(5,.dat (.int .i64 k))]
abbrev O24 (L : List Clk) (k : Nat) : TStore:=[((5,0),.plain (.arr 1 k false (L.map CD)))]
theorem loop24_0 (es : List Evt) (hl : es.length < 900) (k : Nat) (hk : k < es.length) (L : List Clk) : ∀ (m i : Nat) (s : St),i + m = k →
  hd [0,3,4,5,6,7] [0,3,4,6] s = some ⟨E24 es k ++ [(6,.dat (CD (refI es k i))),(7,.dat (.int .i64 i))],O24 L k⟩ →
  Ev (loopLim (exec KR l24_0) s) fun p => p.1 = .exit 2 ∧ hd [0,3,4,5,6] [] p.2 = some ⟨E24 es k ++ [(6,.dat (CD (refI es k k)))],O24 L k⟩
 | 0,i,s,hi,hs => by
  have e : i = k:=by omega
  subst e
  apply ev_loop
  simp [hs]
 | m + 1,i,s,hi,hs => by
  have h1 : (i : Int) < k:=by omega
  have h2 : i < es.length:=by omega
  have h3 : (i : Int) < es.length:=by omega
  have h4 : (k : Int) < es.length:=by omega
  have ix : Ix i:=by unfold Ix; omega
  obtain ⟨x,hx⟩ : ∃ x,es[i]? = some x:=⟨_,at_get h2⟩
  have hat:=at_of hx
  obtain ⟨_,hx2⟩:=List.getElem?_eq_some_iff.1 hx
  have ho:=ordD_get es hk
  obtain ⟨_,ho2⟩:=List.getElem?_eq_some_iff.1 ho
  have hr:=rowL_get (fun m => bfr es m k) h2
  have hr2 : (rowL (fun m => bfr es m k) es.length)[i]'(by simpa using h2) = .bool (bfr es i k):=rowL_get' _ _
  have r:=run47 (refI es k i) x.ag (by have:=refI_len es k i; omega) (ok_lim (by omega) (refI_ok es k i))
  have ih:=fun s => loop24_0 es hl k hk L m (i + 1) s (by omega)
  rw [refI_s,hat] at ih
  obtain ⟨ag,idx,kind,obj,mux,ent,ord,rd,wr⟩:=x
  generalize (fun p : AEx × St => p.1 = .exit 2 ∧ hd [0,3,4,5,6] [] p.2 = some ⟨E24 es k ++ [(6,.dat (CD (refI es k k)))],O24 L k⟩) = Q at ih ⊢
  apply ev_loop
  cases hb : bfr es i k with
  | true =>
   rw [hb] at hr hr2
   rw [hb,if_pos rfl] at ih
   simp [hs,h1,h2,h3,h4,hk,ix,hx,hx2,ho,ho2,hr,hr2,ED_mk,r]
   exact ih _ (by simp [hs,h1,h2,h3,h4,hk,ix,hx,hx2,ho,ho2,hr,hr2,ED_mk,r])
  | false =>
   rw [hb] at hr hr2
   rw [hb,if_neg (by simp)] at ih
   simp [hs,h1,h2,h3,h4,hk,ix,hx,hx2,ho,ho2,hr,hr2,ED_mk]
   exact ih _ (by simp [hs,h1,h2,h3,h4,hk,ix,hx,hx2,ho,ho2,hr,hr2,ED_mk])
theorem loop24_1 (es : List Evt) (hl : es.length < 900) : ∀ (m k : Nat) (s : St),k + m = es.length →
  hd [0,3,4,5] [0,3,4] s = some ⟨E24 es k,O24 (refsP es k) k⟩ →
  Ev (loopLim (exec KR l24_1) s) fun p => p.1 = .exit 0 ∧ hd [4] [] p.2 = some ⟨[(4,.rsl ((5,0),0,0) es.length 1 0 es.length)],O24 (refsP es es.length) es.length⟩
 | 0,k,s,hk,hs => by
  have e : k = es.length:=by omega
  subst e
  apply ev_loop
  simp [hs]
 | m + 1,k,s,hk,hs => by
  have h1 : (k : Int) < es.length:=by omega
  have h2 : k < es.length:=by omega
  have ix : Ix k:=by unfold Ix; omega
  have hr : (k + 1) * 25 ≤ 1099511627776:=by omega
  obtain ⟨x,hx⟩ : ∃ x,es[k]? = some x:=⟨_,at_get h2⟩
  have hat:=at_of hx
  obtain ⟨_,hx2⟩:=List.getElem?_eq_some_iff.1 hx
  have r:=run47 [] x.ag (by simp) trivial
  have e0 : refI es k 0 = [(x.ag,1)]:=by simp [refI,hat,adv]
  simp only [CD,List.map_nil,adv,List.map_cons] at r
  have ih:=fun s => loop24_1 es hl m (k + 1) s (by omega)
  rw [refsP_s] at ih
  simp only [O24,List.map_append,List.map_cons,List.map_nil] at ih
  obtain ⟨ag,idx,kind,obj,mux,ent,ord,rd,wr⟩:=x
  generalize (fun p : AEx × St => p.1 = .exit 0 ∧ hd [4] [] p.2 = some ⟨[(4,.rsl ((5,0),0,0) es.length 1 0 es.length)],O24 (refsP es es.length) es.length⟩) = Q at ih ⊢
  apply ev_loop
  simp [hs,h1,h2,ix,hx,hx2,ED_mk,r]
  simp only [ev_bnd_iff]
  refine (loop24_0 es hl k h2 (refsP es k) k 0 _ (by omega) (by simp [hs,h1,h2,ix,hx,hx2,ED_mk,r,e0,CD])).mono ?_
  rintro ⟨y,s⟩ ⟨rfl,hs⟩
  simp [hs,hr,ix]
  exact ih _ (by simp [hs,hr,ix])
theorem run24 (es : List Evt) (hIA : InA es) (hl : es.length < 900) : KR 24 [.dat (.sl (es.map ED))] [] = some (.dat (.sl (if okEvs es = true then (refsP es es.length).map CD else [])),[]):=by
 refine callT_ev (fn:=fn24) rfl rfl ?_
 have r42:=run42 es (by omega)
 by_cases ho : okEvs es = true
 ·have r46:=run46 es hIA hl ho
  rw [if_pos ho]
  simp [runFun_eq,r42,r46,ho]
  simp only [ev_bnd_iff]
  refine (loop24_1 es hl es.length 0 _ (by omega) (by simp [r42,r46,ho,refsP])).mono ?_
  rintro ⟨y,s⟩ ⟨rfl,hs⟩
  simp [hs]
 ·rw [if_neg ho]
  simp [runFun_eq,r42,ho]
end Go.Am.W

set_option maxRecDepth 10000
set_option maxHeartbeats 4000000
namespace Go.Am.W
open Go.Proofs Go.Rc
theorem cnt_mem {lim : Int} : ∀ {c : Clk} {lo : Option Int},ok lim lo c → ∀ p ∈ c,cnt c p.1 = p.2
 | [],_,_,p,hp => by cases hp
 | (a,n) :: r,lo,h,p,hp => by
  rcases List.mem_cons.1 hp with rfl | hp
  ·simp [cnt]
  ·have:=ok_gt h.2.2.2 p hp
   simp only [cnt]
   rw [if_neg (by omega)]
   exact cnt_mem h.2.2.2 p hp
theorem leB_self {c : Clk} (h : okB none c = true) : leB c c = true:=by
 unfold leB
 rw [List.all_eq_true]
 intro p hp
 have:=cnt_mem ((okB_iff _ _).1 h) p hp
 simp [this]
theorem same2_self : ∀ {A : List Clk},(∀ c ∈ A,okB none c = true) → same2 A A = true
 | [],_ => rfl
 | a :: r,h => by
  have h1:=h a (by simp)
  have h2 : same2 r r = true:=same2_self fun c hc => h c (by simp [hc])
  simp [same2,h1,leB_self h1,h2]
theorem srcs_map (es : List Evt) (n : Nat) : srcs es n = ((List.range n).map fun i => src (at' es) i).map Nn:=by simp [srcs,Function.comp_def]
theorem clks_eq {es : List Evt} (ho : okEvs es = true) : clksP es es.length = refsP es es.length:=by
 have hv:=okEvs_all ho
 have hvi : ∀ i,i < es.length → vld (at' es i) = true:=fun i hi => by
  obtain ⟨y,hy⟩ : ∃ y,es[i]? = some y:=⟨_,at_get hi⟩
  rw [at_of hy]
  exact List.all_eq_true.1 hv y (List.mem_of_getElem? hy)
 unfold clksP refsP
 apply List.map_congr_left
 intro k hk
 rw [clkP_ref hvi k (List.mem_range.1 hk),refI_all]
theorem run15 : KR 15 [] [] = some (.dat (.bool true),[]):=callT_iff.2 ⟨1,rfl⟩
theorem run5 (es : List Evt) (hIA : InA es) : KR 5 [.dat (.sl (es.map ED))] [] = some (.dat (.bool true),[]):=by
 have r15:=run15
 refine callT_ev (fn:=fn5) rfl rfl ?_
 by_cases hl : es.length ≤ 50
 rotate_left
 ·have h1 : (50 : Int) < es.length:=by omega
  have h2 : 50 < es.length:=by omega
  simp [runFun_eq,h1,h2,r15]
 ·have h1 : ¬ (50 : Int) < es.length:=by omega
  have h2 : ¬ 50 < es.length:=by omega
  have r20:=run20 es hIA (by omega)
  have r21:=run21 es hIA (by omega)
  have r23:=run23 es hIA (by omega)
  have r24:=run24 es hIA (by omega)
  by_cases ho : okEvs es = true
  ·rw [if_pos ho] at r20 r21 r23 r24
   have r19:=run19 ((List.range es.length).map fun i => src (at' es) i) (by simp; omega)
   rw [← srcs_map] at r19
   rw [← clks_eq ho] at r24
   have hok : ∀ c ∈ clksP es es.length,okB none c = true ∧ c.length < 1000000000:=by
    intro c hc
    rw [clks_eq ho] at hc
    obtain ⟨k,hk,rfl⟩:=List.mem_map.1 hc
    have hk:=List.mem_range.1 hk
    exact ⟨(okB_iff _ _).2 (ok_lim (by omega) (refI_ok es k k)),by have:=refI_len es k k; omega⟩
   have r22:=run22 (clksP es es.length) (clksP es es.length) (by simp; omega) (fun c hc => (hok c hc).2) (fun c hc => (hok c hc).2) rfl (same2_self fun c hc => (hok c hc).1)
   simp [runFun_eq,h1,h2,r15,r20,r21,r19,r23,r24,r22]
  ·rw [if_neg ho] at r20 r21 r23 r24
   have r19:=run19 [] (by simp)
   have r22:=run22 [] [] (by simp) (by simp) (by simp) rfl rfl
   simp only [List.map_nil] at r19 r22
   simp [runFun_eq,h1,h2,r15,r20,r21,r19,r23,r24,r22]
end Go.Am.W
