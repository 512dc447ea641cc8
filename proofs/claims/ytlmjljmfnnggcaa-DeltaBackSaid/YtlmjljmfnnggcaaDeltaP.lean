/- Events as bytes, without the program: there and back. -/
import Derived.Test.YtlmjljmfnnggcaaEvL
import Derived.Test.YtlmjljmfnnggcaaCodecS
import Derived.Test.YtlmjljmfnnggcaaLs
set_option linter.unusedSimpArgs false
set_option linter.unusedVariables false
set_option linter.unusedSectionVars false
set_option maxRecDepth 20000
namespace Go.Proofs.Ytlmjljmfnnggcaa
open Go Go.J
attribute [local irreducible] At AtQ AtM AtM1 PR Ct Pu Rd Res.blk Res.own Res.ex RVs RV
namespace Dlt
open Ev Cod
def sg (x : Int) : Int := if x < 9223372036854775808 then x else x - 18446744073709551616
def df (V v : Nat) : Int := sg (((V : Int) - v) % 18446744073709551616)
def up (v : Nat) (d : Int) : Nat := (((v : Int) + d % 18446744073709551616) % 18446744073709551616).toNat
theorem df_bd (V v : Nat) : -9223372036854775808 ≤ df V v ∧ df V v ≤ 9223372036854775807 := by unfold df sg; split <;> omega
theorem up_df {V v : Nat} (h : V < 18446744073709551616) : up v (df V v) = V := by unfold up df sg; split <;> omega
theorem up_lt (v : Nat) (d : Int) : up v d < 18446744073709551616 := by unfold up; omega
theorem unzig_zig {x : Int} : unzig (zig x) = x := by unfold unzig zig; split <;> split <;> omega
def nv (v : Nat) (e : Ev) : Nat := if e.S = true then v else e.V
def nD (e : Ev) (t : Int) : Nat := (4 * (e.T - t)).toNat + (if e.S = true then 1 else 0) + (if 0 < e.C then 2 else 0)
def one (e : Ev) (t : Int) (v : Nat) : List UInt8 := uintB (nD e t) ++ ((if e.S = true then [] else uintB (zig (df e.V v))) ++ (if 0 < e.C then uintB (e.T - e.C).toNat else []))
def parts : Int → Nat → List Ev → List (List UInt8)
  | _, _, [] => []
  | t, v, e :: l => one e t v :: parts e.T (nv v e) l
def eT (t : Int) (l : List Ev) : Int := l.foldl (fun _ e => e.T) t
def eV (v : Nat) (l : List Ev) : Nat := l.foldl nv v
theorem eT_snoc (t : Int) (l : List Ev) (e : Ev) : eT t (l ++ [e]) = e.T := by simp [eT]
theorem eV_snoc (v : Nat) (l : List Ev) (e : Ev) : eV v (l ++ [e]) = nv (eV v l) e := by simp [eV]
theorem parts_snoc : ∀ (l : List Ev) (t : Int) (v : Nat) (e : Ev), parts t v (l ++ [e]) = parts t v l ++ [one e (eT t l) (eV v l)]
  | [], _, _, _ => rfl
  | x :: l, t, v, e => by
    show one x t v :: parts x.T (nv v x) (l ++ [e]) = _
    rw [parts_snoc l]; rfl
theorem parts_len : ∀ (l : List Ev) (t : Int) (v : Nat), (parts t v l).length = l.length
  | [], _, _ => rfl
  | x :: l, t, v => by show (parts _ _ l).length + 1 = _; rw [parts_len l]; rfl
def body (l : List Ev) : List UInt8 := (parts 0 0 l).flatten
def bytes (l : List Ev) : List UInt8 := uintB l.length ++ body l
theorem body_snoc (l : List Ev) (e : Ev) : body (l ++ [e]) = body l ++ one e (eT 0 l) (eV 0 l) := by unfold body; rw [parts_snoc]; simp
def dchk (l : List Ev) : Int := if 4096 < l.length then 6 else Mrg.chk l
theorem dchk_zero {l : List Ev} : dchk l = 0 ↔ l.length ≤ 4096 ∧ (∀ e ∈ l, e.ok) ∧ Mrg.Asc l := by
  unfold dchk
  by_cases h : 4096 < l.length
  · rw [if_pos h]; exact ⟨(fun h => by cases h), fun h' => by omega⟩
  · rw [if_neg h, Mrg.chk_zero]; exact ⟨fun h' => ⟨by omega, h'⟩, fun h' => h'.2⟩
theorem nv_lt {v : Nat} {e : Ev} (hv : v < 18446744073709551616) (he : e.V < 18446744073709551616) : nv v e < 18446744073709551616 := by unfold nv; split <;> assumption
theorem eV_lt : ∀ (l : List Ev) (v : Nat), v < 18446744073709551616 → (∀ e ∈ l, e.V < 18446744073709551616) → eV v l < 18446744073709551616
  | [], _, h, _ => h
  | e :: l, v, h, hl => eV_lt l (nv v e) (nv_lt h (hl e (List.mem_cons_self ..))) fun x hx => hl x (List.mem_cons_of_mem _ hx)
theorem nD_lt {e : Ev} {t : Int} (h : e.ok) (h0 : 0 ≤ t) : nD e t < 18446744073709551616 := by
  have := h.2.1
  unfold nD
  split <;> split <;> omega
theorem one_len {e : Ev} {t : Int} {v : Nat} (h : e.ok) (h0 : 0 ≤ t) : (one e t v).length ≤ 30 := by
  have h1 := uintB_len10 (nD_lt h h0)
  have h2 := uintB_len10 (zig_lt (df_bd e.V v))
  have h3 : (uintB (e.T - e.C).toNat).length ≤ 10 := uintB_len10 (by have := h.2.1; have := h.2.2.1; omega)
  unfold one
  simp only [List.length_append]
  split <;> split <;> (try simp only [List.length_nil]) <;> omega
/-- where one may stand: behind what was ahead -/
def Beh : Int → List Ev → Prop
  | _, [] => True
  | t, e :: l => 0 ≤ t ∧ t ≤ e.T ∧ e.ok ∧ Beh e.T l
theorem beh_of : ∀ {l : List Ev} {t : Int}, 0 ≤ t → (∀ e ∈ l, e.ok) → Mrg.Asc l → (∀ e ∈ l, t ≤ e.T) → Beh t l
  | [], _, _, _, _, _ => trivial
  | e :: l, t, h0, h1, h2, h3 => by
    obtain ⟨a1, a2⟩ := List.pairwise_cons.1 h2
    have he := h1 e (List.mem_cons_self ..)
    exact ⟨h0, h3 e (List.mem_cons_self ..), he, beh_of he.1 (fun x hx => h1 x (List.mem_cons_of_mem _ hx)) a2 fun x hx => Int.le_of_lt (a1 x hx)⟩
theorem beh0 {l : List Ev} (h : dchk l = 0) : Beh 0 l := by
  obtain ⟨_, h1, h2⟩ := dchk_zero.1 h
  exact beh_of (Int.le_refl 0) h1 h2 fun e he => (h1 e he).1
theorem Beh.at : ∀ {l : List Ev} {t : Int}, Beh t l → ∀ i, i < l.length → (l[i]!).ok ∧ 0 ≤ eT t (l.take i) ∧ eT t (l.take i) ≤ (l[i]!).T
  | [], _, _, i, hi => absurd hi (Nat.not_lt_zero i)
  | e :: l, t, h, 0, _ => ⟨h.2.2.1, h.1, h.2.1⟩
  | e :: l, t, h, i + 1, hi => by
    have := Beh.at h.2.2.2 i (by simpa using hi)
    simpa [eT] using this
theorem parts_len30 : ∀ {l : List Ev} {t : Int} {v : Nat}, Beh t l → ∀ x ∈ parts t v l, x.length ≤ 30
  | [], _, _, _, x, hx => by cases hx
  | e :: l, t, v, h, x, hx => by
    rcases List.mem_cons.1 hx with rfl | hx
    · exact one_len h.2.2.1 h.1
    · exact parts_len30 h.2.2.2 x hx
theorem flat_le {k : Nat} : ∀ {L : List (List UInt8)}, (∀ x ∈ L, x.length ≤ k) → L.flatten.length ≤ L.length * k
  | [], _ => Nat.zero_le _
  | x :: L, h => by
    have h1 := h x (List.mem_cons_self ..)
    have h2 := flat_le (L := L) fun y hy => h y (List.mem_cons_of_mem _ hy)
    rw [List.flatten_cons, List.length_append, List.length_cons, Nat.succ_mul]; omega
theorem body_len {l : List Ev} (h : Beh 0 l) : (body l).length ≤ l.length * 30 := by
  have := flat_le (parts_len30 (v := 0) h)
  rwa [parts_len] at this
/-! ### back -/
def xT (t : Int) (s : RS) : Int := IntKind.wrap .i64 (t + (((rU s).1 / 4 : Nat) : Int))
def xS (s : RS) : Bool := decide ((rU s).1 % 2 = 1)
def xD (s : RS) : Bool := decide ((rU s).1 / 2 % 2 = 1)
def s2 (s : RS) : RS := if xS s = true then (rU s).2 else (rI (rU s).2).2
def xV (v : Nat) (s : RS) : Nat := if xS s = true then v else up v (rI (rU s).2).1
def s3 (s : RS) : RS := if xD s = true then (rU (s2 s)).2 else s2 s
def xC (t : Int) (s : RS) : Int := if xD s = true then IntKind.wrap .i64 (xT t s - IntKind.wrap .i64 (((rU (s2 s)).1 : Nat) : Int)) else 0
def evt (t : Int) (v : Nat) (s : RS) : Ev := ⟨xT t s, if xS s = true then 0 else xV v s, xC t s, xS s⟩
structure RSt where
  (t : Int) (v : Nat) (s : RS)
def nx (x : RSt) : RSt := ⟨xT x.t x.s, xV x.v x.s, s3 x.s⟩
def itS : Nat → RSt → RSt
  | 0, x => x
  | k + 1, x => nx (itS k x)
def itL : Nat → RSt → List Ev
  | 0, _ => []
  | k + 1, x => itL k x ++ [evt (itS k x).t (itS k x).v (itS k x).s]
theorem itL_len : ∀ (k : Nat) (x : RSt), (itL k x).length = k
  | 0, _ => rfl
  | k + 1, x => by rw [itL, List.length_append, itL_len k]; rfl
theorem itS_front : ∀ (k : Nat) (x : RSt), itS (k + 1) x = itS k (nx x)
  | 0, _ => rfl
  | k + 1, x => by rw [itS, itS_front k]; rfl
theorem itL_front : ∀ (k : Nat) (x : RSt), itL (k + 1) x = evt x.t x.v x.s :: itL k (nx x)
  | 0, _ => rfl
  | k + 1, x => by rw [itL, itL_front k, itL, itS_front]; rfl
theorem rI_le (s : RS) : (rI s).2.1.length ≤ s.1.length := rU_le s
theorem s2_le (s : RS) : (s2 s).1.length ≤ s.1.length := by
  unfold s2; split
  · exact rU_le s
  · exact Nat.le_trans (rI_le _) (rU_le s)
theorem s3_le (s : RS) : (s3 s).1.length ≤ s.1.length := by
  unfold s3; split
  · exact Nat.le_trans (rU_le _) (s2_le s)
  · exact s2_le s
theorem itS_le : ∀ (k : Nat) (x : RSt), (itS k x).s.1.length ≤ x.s.1.length
  | 0, _ => Nat.le_refl _
  | k + 1, x => Nat.le_trans (s3_le _) (itS_le k x)
theorem s2_ok {s : RS} (h : Ok s) : Ok (s2 s) := by
  unfold s2; split
  · exact h.rU
  · exact h.rU.rU
theorem s3_ok {s : RS} (h : Ok s) : Ok (s3 s) := by
  unfold s3; split
  · exact (s2_ok h).rU
  · exact s2_ok h
theorem itS_ok : ∀ (k : Nat) {x : RSt}, Ok x.s → Ok (itS k x).s
  | 0, _, h => h
  | k + 1, _, h => s3_ok (itS_ok k h)
theorem xV_lt {v : Nat} {s : RS} (h : v < 18446744073709551616) : xV v s < 18446744073709551616 := by
  unfold xV; split
  · exact h
  · exact up_lt _ _
theorem itS_v : ∀ (k : Nat) {x : RSt}, x.v < 18446744073709551616 → (itS k x).v < 18446744073709551616
  | 0, _, h => h
  | k + 1, _, h => xV_lt (itS_v k h)
theorem itL_v : ∀ (k : Nat) {x : RSt}, x.v < 18446744073709551616 → ∀ e ∈ itL k x, e.V < 18446744073709551616
  | 0, _, _, e, he => by cases he
  | k + 1, x, h, e, he => by
    rcases List.mem_append.1 he with h1 | h1
    · exact itL_v k h e h1
    · rw [List.mem_singleton.1 h1]
      show (if _ then 0 else _) < _
      split
      · decide
      · exact xV_lt (itS_v k h)
theorem rU_back {n : Nat} (h : n < 18446744073709551616) (r : List UInt8) : rU (uintB n ++ r, false) = (n, (r, false)) := by unfold rU; rw [dec_uint h r]
theorem rI_back {x : Int} (h : -9223372036854775808 ≤ x ∧ x ≤ 9223372036854775807) (r : List UInt8) : rI (uintB (zig x) ++ r, false) = (x, (r, false)) := by
  unfold rI; rw [rU_back (zig_lt h), unzig_zig]
theorem wrap_id {x : Int} (h : -9223372036854775808 ≤ x ∧ x ≤ 9223372036854775807) : IntKind.wrap .i64 x = x := IntWalk.i64_in _ (by omega)
theorem step_back {e : Ev} {t : Int} {v : Nat} (h : e.ok) (h0 : 0 ≤ t) (h1 : t ≤ e.T) (hV : e.V < 18446744073709551616) (r : List UInt8) :
    evt t v (one e t v ++ r, false) = e ∧ nx ⟨t, v, (one e t v ++ r, false)⟩ = ⟨e.T, nv v e, (r, false)⟩ := by
  obtain ⟨o1, o2, o3, o4, o5⟩ := h
  have hn := nD_lt ⟨o1, o2, o3, o4, o5⟩ h0
  have eU : rU (one e t v ++ r, false) = (nD e t, ((if e.S = true then [] else uintB (zig (df e.V v))) ++ ((if 0 < e.C then uintB (e.T - e.C).toNat else []) ++ r), false)) := by
    unfold one; rw [List.append_assoc, List.append_assoc]; exact rU_back hn _
  have d4 : ((nD e t / 4 : Nat) : Int) = e.T - t := by unfold nD; split <;> split <;> omega
  have eS : xS (one e t v ++ r, false) = e.S := by
    unfold xS; rw [eU]
    show decide (nD e t % 2 = 1) = e.S
    cases hS : e.S with
    | true => exact decide_eq_true (by unfold nD; rw [hS, if_pos rfl]; split <;> omega)
    | false => exact decide_eq_false (by unfold nD; rw [hS, if_neg (by decide)]; split <;> omega)
  have eD : xD (one e t v ++ r, false) = decide (0 < e.C) := by
    unfold xD; rw [eU]
    show decide (nD e t / 2 % 2 = 1) = _
    rw [decide_eq_decide]
    unfold nD
    split <;> split <;> omega
  have eT' : xT t (one e t v ++ r, false) = e.T := by
    unfold xT; rw [eU]
    show IntKind.wrap .i64 (t + ((nD e t / 4 : Nat) : Int)) = _
    rw [d4, show t + (e.T - t) = e.T by omega]; exact wrap_id (by omega)
  have e2 : s2 (one e t v ++ r, false) = ((if 0 < e.C then uintB (e.T - e.C).toNat else []) ++ r, false) := by
    unfold s2; rw [eS, eU]
    cases hS : e.S with
    | true => rw [if_pos rfl, if_pos rfl]; rfl
    | false =>
      rw [if_neg (by decide), if_neg (by decide)]
      show (rI (uintB (zig (df e.V v)) ++ _, false)).2 = _
      rw [rI_back (df_bd e.V v)]
  have eV' : xV v (one e t v ++ r, false) = nv v e := by
    unfold xV nv; rw [eS, eU]
    cases hS : e.S with
    | true => rfl
    | false =>
      simp only [Bool.false_eq_true, if_false]
      show up v (rI (uintB (zig (df e.V v)) ++ _, false)).1 = _
      rw [rI_back (df_bd e.V v)]; exact up_df hV
  have e3 : s3 (one e t v ++ r, false) = (r, false) := by
    unfold s3; rw [eD, e2]
    by_cases hC : 0 < e.C
    · rw [if_pos (decide_eq_true hC), if_pos hC, rU_back (by omega)]
    · rw [if_neg (by rw [decide_eq_false hC]; decide), if_neg hC]; rfl
  have eC : xC t (one e t v ++ r, false) = e.C := by
    unfold xC; rw [eD, e2, eT']
    by_cases hC : 0 < e.C
    · rw [if_pos (decide_eq_true hC), if_pos hC, rU_back (by omega)]
      show IntKind.wrap .i64 (e.T - IntKind.wrap .i64 (((e.T - e.C).toNat : Nat) : Int)) = e.C
      rw [Int.toNat_of_nonneg (by omega), wrap_id (x := e.T - e.C) (by omega), show e.T - (e.T - e.C) = e.C by omega]; exact wrap_id (by omega)
    · rw [if_neg (by rw [decide_eq_false hC]; decide)]; omega
  refine ⟨?_, ?_⟩
  · unfold evt
    rw [eT', eS, eV', eC]
    refine Mrg.ev_ext rfl ?_ rfl rfl
    show (if e.S = true then 0 else nv v e) = e.V
    cases hS : e.S with
    | true => exact (o5 hS).1.symm
    | false => unfold nv; rw [hS]; rfl
  · unfold nx
    dsimp only
    rw [eT', eV', e3]
theorem back : ∀ (l : List Ev) (t : Int) (v : Nat) (r : List UInt8), Beh t l → (∀ e ∈ l, e.V < 18446744073709551616) →
    itL l.length ⟨t, v, ((parts t v l).flatten ++ r, false)⟩ = l ∧ itS l.length ⟨t, v, ((parts t v l).flatten ++ r, false)⟩ = ⟨eT t l, eV v l, (r, false)⟩
  | [], t, v, r, _, _ => ⟨rfl, rfl⟩
  | e :: l, t, v, r, hb, hV => by
    obtain ⟨h0, h1, h2, h3⟩ := hb
    have hs := step_back (v := v) h2 h0 h1 (hV e (List.mem_cons_self ..)) ((parts e.T (nv v e) l).flatten ++ r)
    have ih := back l e.T (nv v e) r h3 fun x hx => hV x (List.mem_cons_of_mem _ hx)
    have ee : (parts t v (e :: l)).flatten ++ r = one e t v ++ ((parts e.T (nv v e) l).flatten ++ r) := by
      show (one e t v :: parts e.T (nv v e) l).flatten ++ r = _
      rw [List.flatten_cons, List.append_assoc]
    rw [ee, List.length_cons, itL_front, itS_front]
    dsimp only
    rw [hs.1, hs.2]
    exact ⟨by rw [ih.1], ih.2⟩
/-- on the way nothing is bad -/
theorem back_mid {l : List Ev} (hl : dchk l = 0) (hV : ∀ e ∈ l, e.V < 18446744073709551616) (r : List UInt8) {k : Nat} (hk : k ≤ l.length) :
    itL k ⟨0, 0, (body l ++ r, false)⟩ = l.take k ∧ (itS k ⟨0, 0, (body l ++ r, false)⟩).s = ((parts (eT 0 (l.take k)) (eV 0 (l.take k)) (l.drop k)).flatten ++ r, false) := by
  have hsp : ∀ (l1 l2 : List Ev) (t : Int) (v : Nat), parts t v (l1 ++ l2) = parts t v l1 ++ parts (eT t l1) (eV v l1) l2 := by
    intro l1
    induction l1 with
    | nil => intro l2 t v; rfl
    | cons e l1 ih => intro l2 t v; show one e t v :: parts e.T (nv v e) (l1 ++ l2) = _; rw [ih]; rfl
  have hb : ∀ (l : List Ev) (t : Int), Beh t l → ∀ k, Beh t (l.take k) := by
    intro l
    induction l with
    | nil => intro t h k; rw [List.take_nil]; trivial
    | cons e l ih =>
      intro t h k
      cases k with
      | zero => trivial
      | succ k => exact ⟨h.1, h.2.1, h.2.2.1, ih _ h.2.2.2 k⟩
  have e : body l ++ r = (parts 0 0 (l.take k)).flatten ++ ((parts (eT 0 (l.take k)) (eV 0 (l.take k)) (l.drop k)).flatten ++ r) := by
    unfold body
    conv => lhs; rw [← List.take_append_drop k l]
    rw [hsp, List.flatten_append, List.append_assoc]
  have := back (l.take k) 0 0 ((parts (eT 0 (l.take k)) (eV 0 (l.take k)) (l.drop k)).flatten ++ r) (hb l 0 (beh0 hl) k) (fun x hx => hV x (List.mem_of_mem_take hx))
  rw [List.length_take, Nat.min_eq_left hk, ← e] at this
  exact ⟨this.1, by rw [this.2]⟩
theorem len_lt {l : List Ev} (h : dchk l = 0) : l.length < 18446744073709551616 := by have := (dchk_zero.1 h).1; omega
theorem bytes_front {l : List Ev} (h : dchk l = 0) (r : List UInt8) : rU (bytes l ++ r, false) = (l.length, (body l ++ r, false)) := by
  unfold bytes; rw [List.append_assoc]; exact rU_back (len_lt h) _
theorem bytes_uniq {l l' : List Ev} (h : dchk l = 0) (h' : dchk l' = 0) (hV : ∀ e ∈ l, e.V < 18446744073709551616) (hV' : ∀ e ∈ l', e.V < 18446744073709551616) {r r' : List UInt8} (he : bytes l ++ r = bytes l' ++ r') : l = l' ∧ r = r' := by
  have a := bytes_front h r
  have b := bytes_front h' r'
  rw [he, b] at a
  injection a with a1 a2
  injection a2 with a3 _
  have c := back l 0 0 r (beh0 h) hV
  have d := back l' 0 0 r' (beh0 h') hV'
  rw [show (parts 0 0 l').flatten = body l' from rfl, a1, a3] at d
  rw [show (parts 0 0 l).flatten = body l from rfl] at c
  rw [c.1, c.2] at d
  refine ⟨d.1, ?_⟩
  have := congrArg (fun x : RSt => x.s.1) d.2
  exact this
open Classical in
/-- what is read of bytes -/
noncomputable def rdL (s : List UInt8) : List Ev := if h : ∃ l, dchk l = 0 ∧ (∀ e ∈ l, e.V < 18446744073709551616) ∧ bytes l = s then Classical.choose h else []
open Classical in
noncomputable def rdE (s : List UInt8) : Int := if ∃ l, dchk l = 0 ∧ (∀ e ∈ l, e.V < 18446744073709551616) ∧ bytes l = s then 0 else 4
theorem rd_yes {s : List UInt8} {l : List Ev} (h1 : dchk l = 0) (h2 : ∀ e ∈ l, e.V < 18446744073709551616) (h3 : bytes l = s) : rdL s = l ∧ rdE s = 0 := by
  have h : ∃ l, dchk l = 0 ∧ (∀ e ∈ l, e.V < 18446744073709551616) ∧ bytes l = s := ⟨l, h1, h2, h3⟩
  refine ⟨?_, if_pos h⟩
  unfold rdL
  rw [dif_pos h]
  have hc := Classical.choose_spec h
  exact (bytes_uniq (r := []) (r' := []) hc.1 h1 hc.2.1 h2 (by rw [List.append_nil, List.append_nil, hc.2.2, h3])).1
theorem rd_no {s : List UInt8} (h : ¬ ∃ l, dchk l = 0 ∧ (∀ e ∈ l, e.V < 18446744073709551616) ∧ bytes l = s) : rdL s = [] ∧ rdE s = 4 := ⟨dif_neg h, if_neg h⟩
theorem rd_cases (s : List UInt8) : (rdE s = 0 ∧ dchk (rdL s) = 0 ∧ (∀ e ∈ rdL s, e.V < 18446744073709551616) ∧ bytes (rdL s) = s) ∨ (rdE s = 4 ∧ rdL s = []) := by
  by_cases h : ∃ l, dchk l = 0 ∧ (∀ e ∈ l, e.V < 18446744073709551616) ∧ bytes l = s
  · obtain ⟨l, h1, h2, h3⟩ := h
    obtain ⟨e1, e2⟩ := rd_yes h1 h2 h3
    exact .inl ⟨e2, by rw [e1]; exact h1, by rw [e1]; exact h2, by rw [e1]; exact h3⟩
  · exact .inr ⟨(rd_no h).2, (rd_no h).1⟩
/-- a reader's end: what it checks tells all -/
theorem rd_end {s : List UInt8} {k : Nat} (hstop : k = (rU (s, false)).1 ∨ (itS k ⟨0, 0, (rU (s, false)).2⟩).s.2 = true ∨ 4096 < k) (hk : k ≤ (rU (s, false)).1) :
    ((itS k ⟨0, 0, (rU (s, false)).2⟩).s.2 = false ∧ dchk (itL k ⟨0, 0, (rU (s, false)).2⟩) = 0 ∧ bytes (itL k ⟨0, 0, (rU (s, false)).2⟩) = s → rdL s = itL k ⟨0, 0, (rU (s, false)).2⟩ ∧ rdE s = 0) ∧
    (¬ (dchk (itL k ⟨0, 0, (rU (s, false)).2⟩) = 0 ∧ bytes (itL k ⟨0, 0, (rU (s, false)).2⟩) = s) ∨ (itS k ⟨0, 0, (rU (s, false)).2⟩).s.2 = true → rdL s = [] ∧ rdE s = 4) := by
  refine ⟨fun ⟨_, h2, h3⟩ => rd_yes h2 (itL_v k (by show (0 : Nat) < _; decide)) h3, fun h => rd_no ?_⟩
  rintro ⟨l, h1, h2, h3⟩
  have hf := bytes_front h1 []
  rw [List.append_nil, List.append_nil, h3] at hf
  rw [hf] at hk hstop h
  dsimp only at hk hstop h
  have hm := back_mid h1 h2 [] hk
  rw [List.append_nil] at hm
  have hl := (dchk_zero.1 h1).1
  rw [hm.2] at hstop h
  have e : k = l.length := by
    rcases hstop with e | e | e
    · exact e
    · cases e
    · omega
  rw [hm.1, e, List.take_length] at h
  rcases h with h | h
  · exact h ⟨h1, h3⟩
  · cases h
/-- the document's: too many at once -/
theorem rd_many {s : List UInt8} (h : (rU (s, false)).2.2 = true ∨ 4096 < (rU (s, false)).1) : rdL s = [] ∧ rdE s = 4 := rd_no fun ⟨l, h1, _, h3⟩ => by
  have hf := bytes_front h1 []
  rw [List.append_nil, List.append_nil, h3] at hf
  rw [hf] at h
  have := (dchk_zero.1 h1).1
  rcases h with h | h
  · cases h
  · exact absurd this (Nat.not_le.2 h)
theorem rU0 {s : List UInt8} (h : (rU (s, false)).2.2 = true) : (rU (s, false)).1 = 0 := by
  have hok : Ok (s, false) := fun h => by cases h
  exact congrArg Prod.fst (rU_bad hok h)
end Dlt
end Go.Proofs.Ytlmjljmfnnggcaa
