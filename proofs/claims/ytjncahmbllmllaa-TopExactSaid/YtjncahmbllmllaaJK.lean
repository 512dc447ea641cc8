/- Frames cut down to what is read on; loops and meeting places by that; texts; structs held against one another; bits; functions as values. -/
import Derived.Test.YtjncahmbllmllaaJR
import Derived.Laws.StructEq
import Derived.Laws.Concat
import Derived.Laws.IdiomStrings
import Derived.Laws.BitsAll
set_option linter.unusedSimpArgs false
set_option linter.unusedVariables false
set_option linter.unusedSectionVars false
set_option maxRecDepth 20000
namespace Go.J
open Go

def keepL : List Nat → Fr → Option Fr
  | [], _ => some []
  | t :: ts, F => match look t F with
    | some v => match keepL ts F with
      | some r => some ((t, v) :: r)
      | none => none
    | none => keepL ts F
def str (l : List UInt8) : ByteArray := ⟨l.toArray⟩
theorem str_of (b : ByteArray) : ∃ l, b = str l := ⟨b.data.toList, by cases b; simp [str]⟩
theorem str_inj {a b : List UInt8} : str a = str b ↔ a = b := by
  constructor
  · intro h
    have := congrArg (fun x => x.data.toList) h
    simpa [str] using this
  · rintro rfl; rfl
theorem str_size (l : List UInt8) : (str l).size = l.length := by simp [str, ByteArray.size]
theorem str_toList (l : List UInt8) : (str l).data.toList = l := by simp [str]
def u8 (n : Int) : UInt8 := UInt8.ofNat n.toNat
def bI (b : UInt8) : Int := (b.toNat : Int)
theorem bI_bd (b : UInt8) : 0 ≤ bI b ∧ bI b < 256 := by
  have := b.toNat_lt
  unfold bI; omega
theorem u8_bI (b : UInt8) : u8 (bI b) = b := by simp [u8, bI]
theorem bI_u8 {n : Int} (h0 : 0 ≤ n) (h1 : n < 256) : bI (u8 n) = n := by
  unfold bI u8
  rw [UInt8.toNat_ofNat_of_lt' (by show n.toNat < 256; omega)]
  omega
theorem u8_map (l : List UInt8) : (l.map bI).map u8 = l := by
  rw [List.map_map]
  conv => rhs; rw [← List.map_id l]
  apply List.map_congr_left
  intro b _
  exact u8_bI b
abbrev fb (n : Int) : List Value := [.int .u8 n]
instance : Fl fb 1 := ⟨fun _ => rfl, fun x v h => by simp at h; subst h; rfl, by decide⟩

section
variable {P : Program} {n : Nat} {w0 : World} {F : Fr} {m : Mem} {Rs : List Res} {Q : Exit → Act → World → Prop} {K : Act → World → Prop} {C : World → Prop}

theorem At.loopk {c : Code} {σ : Type} {F0 : Fr} (L : List Nat) (upd : σ → Fr → Fr) (mx : σ → Mem) (Rx : σ → List Res) (I : σ → Prop) (μ : σ → Nat) (s0 : σ) (e0 : keepL L F = some F0) (h0 : I s0) (hF : Subs (upd s0 F0) F) (hm : (mx s0).le m) (hR : Ent Rs (Rx s0))
    (round : ∀ s, I s → At n w0 (upd s F0) (mx s) (Rx s) (c.wp P (Exit.then (fun a w => ∃ s', (I s' ∧ μ s' < μ s) ∧ HF n (upd s' F0) a ∧ HW w0 (mx s') (Rx s') w) Q))) :
    At n w0 F m Rs ((Code.loop c).wp P Q) := by
  have _ := e0
  exact At.loop (fun s => upd s F0) mx Rx I μ s0 h0 hF hm hR round
/-- where the ways of an 'if' meet -/
theorem At.cutk {t : Nat} {x1 x2 : Code} {b : Bool} {σ : Type} {F0 : Fr} (L : List Nat) (upd : σ → Fr → Fr) (mx : σ → Mem) (Rx : σ → List Res) (I : σ → Prop) (e0 : keepL L F = some F0) (hc : look t F = some (.bool b))
    (hb : (b = true → At n w0 F m Rs (x1.wp P (Exit.then (fun a w => ∃ s, I s ∧ HF n (upd s F0) a ∧ HW w0 (mx s) (Rx s) w) Q))) ∧
      (b = false → At n w0 F m Rs (x2.wp P (Exit.then (fun a w => ∃ s, I s ∧ HF n (upd s F0) a ∧ HW w0 (mx s) (Rx s) w) Q))))
    (hy : ∀ s, I s → At n w0 (upd s F0) (mx s) (Rx s) K) : At n w0 F m Rs ((Code.cond (.tmp t) x1 x2).wp P (Exit.then K Q)) := by
  have _ := e0
  refine fun a w ha hw => Code.wp_mono (fun e a' w' q => ?_) (At.cond (c := .tmp t) hc hb.1 hb.2 a w ha hw)
  cases e <;> first | exact q | (obtain ⟨s, hI, h1, h2⟩ := q; exact hy s hI a' w' h1 h2)
/-- where the ways out of a block meet -/
theorem At.cutb {id : Nat} {x : Code} {σ : Type} {F0 : Fr} (L : List Nat) (upd : σ → Fr → Fr) (mx : σ → Mem) (Rx : σ → List Res) (I : σ → Prop) (e0 : keepL L F = some F0)
    (hx : At n w0 F m Rs (x.wp P (Exit.inBlock id (Exit.then (fun a w => ∃ s, I s ∧ HF n (upd s F0) a ∧ HW w0 (mx s) (Rx s) w) Q))))
    (hy : ∀ s, I s → At n w0 (upd s F0) (mx s) (Rx s) K) : At n w0 F m Rs ((Code.block id x).wp P (Exit.then K Q)) := by
  have _ := e0
  refine fun a w ha hw => Code.wp_mono (fun e a' w' q => ?_) (At.block hx a w ha hw)
  cases e <;> first | exact q | (obtain ⟨s, hI, h1, h2⟩ := q; exact hy s hI a' w' h1 h2)
theorem At.idd (h : At n w0 F m Rs K) : At n w0 F m Rs K := h
theorem AtQ.idd {ops : Array Oper} {rest : List Oper} {Qq : Act → Prop} (h : AtQ P n F C ops Qq rest) : AtQ P n F C ops Qq rest := h
theorem AtM.idd {X : List Res} {l : List Oper} {f : Nat} {s : Array Bool} {p : Plan} (h : AtM P n w0 F m Rs X K l f s p) : AtM P n w0 F m Rs X K l f s p := h
/-- less is known from here on -/
theorem At.trim {F0 : Fr} (L : List Nat) (e0 : keepL L F = some F0) (hF : Subs F0 F) (h : At n w0 F0 m Rs K) : At n w0 F m Rs K := by
  have _ := e0
  exact At.frame hF h
/-- a round's end -/
theorem At.reachk {σ : Type} {Fx : σ → Fr} {mx : σ → Mem} {Rx : σ → List Res} {I : σ → Prop} (s : σ) (hF : Subs (Fx s) F) (hm : (mx s).le m) (hR : Ent Rs (Rx s)) (hI : I s) :
    At n w0 F m Rs (fun a w => ∃ s, I s ∧ HF n (Fx s) a ∧ HW w0 (mx s) (Rx s) w) := At.reach s hI hF hm hR

theorem Rdb.subl {α : Type} [Inhabited α] {f : α → List Value} {sz : Nat} {p : Option Addr} {c : Nat} {l : List α} (h : Rdb C f sz p c l) (lo : Nat) (h1 : lo ≤ l.length) : Rdb C f sz (subp p c lo sz) (c - lo) (l.drop lo) := by
  have := Rdb.sub h lo l.length h1 (Nat.le_refl _)
  rwa [List.take_length] at this
theorem Rdb.subh {α : Type} [Inhabited α] {f : α → List Value} {sz : Nat} {p : Option Addr} {c : Nat} {l : List α} (h : Rdb C f sz p c l) (hi : Nat) (h1 : hi ≤ l.length) : Rdb C f sz (subp p c 0 sz) (c - 0) (l.take hi) := by
  have := Rdb.sub h 0 hi (Nat.zero_le _) h1
  rwa [List.drop_zero] at this
theorem Sl.subl {α : Type} [Inhabited α] {f : α → List Value} {sz : Nat} {p : Option Addr} {c : Nat} {l : List α} (h : Sl m f sz p c l) (lo : Nat) (h1 : lo ≤ l.length) : Sl m f sz (subp p c lo sz) (c - lo) (l.drop lo) := by
  have := Sl.sub h h1 (Nat.le_refl _)
  rwa [List.take_length] at this
theorem Sl.subh {α : Type} [Inhabited α] {f : α → List Value} {sz : Nat} {p : Option Addr} {c : Nat} {l : List α} (h : Sl m f sz p c l) (hi : Nat) (h1 : hi ≤ l.length) : Sl m f sz (subp p c 0 sz) (c - 0) (l.take hi) := by
  have := Sl.sub h (Nat.zero_le _) h1
  rwa [List.drop_zero] at this

theorem pr_load_ownfN {α : Type} [Inhabited α] {f : α → List Value} {sz : Nat} {E : TypeId} {p : Option Addr} {c : Nat} {l : List α} {Rs' : List Res} {x : Operand} {t : TypeId} {k j q : Nat} {vs : List Value} (hx : ev F x = some (.pointer (some (at_ p (k * sz + j))))) (hp : Pick Rs (.own f sz E p c l) Rs') (hf : Fl f sz) (hk : k < l.length) (hj : Nat.ble (j + q) sz = true) (ht : isAggB P t = some true) (hs : sizeB P t = some q)
    (hv : subl (f l[k]!) j q = some vs) : PR P n F (HW w0 m Rs) (.load t x) (.agg vs.toArray) := pr_load_slfN (own_rdb hf hp) hk hj ht hs hx hv
theorem pr_load_memefN {α : Type} [Inhabited α] {f : α → List Value} {sz : Nat} {p : Option Addr} {c : Nat} {l : List α} {x : Operand} {t : TypeId} {k j q : Nat} {vs : List Value} (hx : ev F x = some (.pointer (some (at_ p (k * sz + j))))) (h : Sl m f sz p c l) (hk : k < l.length) (hj : Nat.ble (j + q) sz = true) (ht : isAggB P t = some true) (hs : sizeB P t = some q)
    (hv : subl (f l[k]!) j q = some vs) : PR P n F (HW w0 m Rs) (.load t x) (.agg vs.toArray) := pr_load_slfN h.rdb hk hj ht hs hx hv

theorem look_int {t : Nat} {F : Fr} {k : IntKind} {a b : Int} (h : look t F = some (.int k a)) (e : a = b) : look t F = some (.int k b) := e ▸ h

/-! ### texts -/
theorem pr_len_str {x : Operand} {t : TypeId} {l : List UInt8} (ht : P.underlying t = some .string) (hx : ev F x = some (.string (str l))) : PR P n F C (.call ⟨.builtin .len, #[x], #[t]⟩) (.int .i64 (l.length : Int)) := by
  have := pr_len_st (n := n) (C := C) ht hx
  rwa [str_size] at this
theorem pr_streq {x y : Operand} {p q : List UInt8} {t u : TypeId} (hx : ev F x = some (.string (str p))) (hy : ev F y = some (.string (str q))) : PR P n F C (.binOp .eql t x y u) (.bool (decide (p = q))) := by
  have := pr_seql (P := P) (n := n) (C := C) (t := t) (u := u) hx hy
  rwa [show decide (str p = str q) = decide (p = q) by simp [str_inj]] at this
theorem pr_strne {x y : Operand} {p q : List UInt8} {t u : TypeId} (hx : ev F x = some (.string (str p))) (hy : ev F y = some (.string (str q))) : PR P n F C (.binOp .neq t x y u) (.bool (!decide (p = q))) := by
  have := pr_sneq (P := P) (n := n) (C := C) (t := t) (u := u) hx hy
  rwa [show decide (str p = str q) = decide (p = q) by simp [str_inj]] at this
theorem str_append (p q : List UInt8) : str p ++ str q = str (p ++ q) := ByteArray.mk_append_mk p q
theorem pr_stradd {x y : Operand} {p q : List UInt8} {t u : TypeId} (hx : ev F x = some (.string (str p))) (hy : ev F y = some (.string (str q))) (hl : p.length + q.length ≤ 9223372036854775807) : PR P n F C (.binOp .add t x y u) (.string (str (p ++ q))) := fun _ _ _ _ _ a w ha _ => by
  have hg : ∀ w, (eqGuard .add t x y (.string (str p)) (.string (str q))).run P w = .ok () w := fun _ => rfl
  have hb : binOp .add t (.string (str p)) (.string (str q)) = Op.stringOp .add (str p) (str q) := rfl
  simp only [execOp, ha.ev hx, ha.ev hy, hb, Sem.run_bind, hg, Result.andThen]
  rw [run_string_add_sum w _ _ (by rw [str_size, str_size]; exact hl), str_append]
  rfl
theorem str_getElem (l : List UInt8) (i : Nat) (h : i < l.length) : (str l)[i]? = some l[i]! := by
  have h' : i < (str l).size := by rw [str_size]; exact h
  rw [ByteArray.getElem?_lt' _ _ h', getElem!_pos l i h]
  congr 1
theorem pr_strindex {x y : Operand} {t : TypeId} {l : List UInt8} {k : IntKind} {q : Int} (ht : P.underlying t = some .string) (hx : ev F x = some (.string (str l))) (hy : ev F y = some (.int k q)) (h0 : 0 ≤ q) (h1 : q < l.length) :
    PR P n F C (.index t x y) (.int .u8 (bI l[q.toNat]!)) := fun _ _ _ _ _ a w ha _ => by
  simp only [execOp, ha.ev hx, ha.ev hy, Sem.run_bind]
  have : (Instr.index t (.string (str l)) (.int k q)).run P w = .ok (.int .u8 (bI l[q.toNat]!)) w := by
    unfold Instr.index
    have hr : (underlying t).run P w = .ok .string w := run_underlying ht w
    simp only [asIntOf, pure, Sem.run_bind, Sem.run, Result.andThen, hr, h0, if_true]
    rw [str_getElem l _ (by omega)]
    rfl
  rw [this]
  rfl
theorem str_extract (l : List UInt8) (a b : Nat) : (str l).extract a b = str ((l.take b).drop a) := by
  have := ByteArray.extract_mk l a b
  show (ByteArray.mk l.toArray).extract a b = _
  rw [this, List.drop_take]
  rfl
theorem run_slice_str {t : TypeId} (ht : P.underlying t = some .string) (l : List UInt8) (lo hi : Nat) (h1 : lo ≤ hi) (h2 : hi ≤ l.length) (vl vh : Option Value)
    (hl : (vl = none ∧ lo = 0) ∨ ∃ k, vl = some (.int k (lo : Int))) (hh : (vh = none ∧ hi = l.length) ∨ ∃ k, vh = some (.int k (hi : Int))) (w : World) :
    (Instr.sliceAt t (.string (str l)) vl vh none).run P w = .ok (.string (str ((l.take hi).drop lo))) w := by
  have hr : ∀ w, (underlying t).run P w = .ok .string w := run_underlying ht
  unfold Instr.sliceAt
  simp only [Sem.run_bind, hr, Result.andThen]
  unfold Instr.slice
  simp only [Sem.run_bind, hr, Result.andThen]
  have hb : (Instr.sliceBounds false (str l).size (str l).size vl vh none).run P w = .ok (lo, hi, (str l).size) w := by
    rw [str_size]
    unfold Instr.sliceBounds Instr.sliceBound
    rcases hl with ⟨rfl, rfl⟩ | ⟨k, rfl⟩ <;> rcases hh with ⟨rfl, rfl⟩ | ⟨k', rfl⟩ <;>
      simp [asIntOf, pure, Sem.run, bind, Sem.bind, h1, h2]
  simp [hb, str_extract, Sem.run]
theorem pr_strslice {x : Operand} {t : TypeId} {l : List UInt8} (lo hi : Nat) (vl vh : Option Operand) (ht : P.underlying t = some .string) (hx : ev F x = some (.string (str l)))
    (hl : (vl = none ∧ lo = 0) ∨ ∃ y k, vl = some y ∧ ev F y = some (.int k (lo : Int))) (hh : (vh = none ∧ hi = l.length) ∨ ∃ y k, vh = some y ∧ ev F y = some (.int k (hi : Int))) (h1 : lo ≤ hi) (h2 : hi ≤ l.length) :
    PR P n F C (.slice t x vl vh none) (.string (str ((l.take hi).drop lo))) := fun _ _ _ _ _ a w ha _ => by
  simp only [execOp, ha.ev hx, Sem.run_bind, Option.map_none]
  rw [run_slice_str ht l lo hi h1 h2 (vl.map a.eval) (vh.map a.eval) ?_ ?_ w]
  · rfl
  · rcases hl with ⟨rfl, rfl⟩ | ⟨y, k, rfl, hy⟩
    · exact .inl ⟨rfl, rfl⟩
    · exact .inr ⟨k, by simp [ha.ev hy]⟩
  · rcases hh with ⟨rfl, rfl⟩ | ⟨y, k, rfl, hy⟩
    · exact .inl ⟨rfl, rfl⟩
    · exact .inr ⟨k, by simp [ha.ev hy]⟩
theorem pr_str_l {x y : Operand} {t : TypeId} {l : List UInt8} {k : IntKind} {q : Int} (ht : P.underlying t = some .string) (hx : ev F x = some (.string (str l))) (hy : ev F y = some (.int k q)) (h0 : 0 ≤ q) (h1 : q ≤ l.length) :
    PR P n F C (.slice t x (some y) none none) (.string (str (l.drop q.toNat))) := by
  have := pr_strslice (P := P) (n := n) (C := C) q.toNat l.length (some y) none ht hx (.inr ⟨y, k, rfl, by rw [hy, Int.toNat_of_nonneg h0]⟩) (.inl ⟨rfl, rfl⟩) (by omega) (Nat.le_refl _)
  rwa [List.take_length] at this
theorem pr_str_h {x z : Operand} {t : TypeId} {l : List UInt8} {k : IntKind} {q : Int} (ht : P.underlying t = some .string) (hx : ev F x = some (.string (str l))) (hz : ev F z = some (.int k q)) (h0 : 0 ≤ q) (h1 : q ≤ l.length) :
    PR P n F C (.slice t x none (some z) none) (.string (str (l.take q.toNat))) := by
  have := pr_strslice (P := P) (n := n) (C := C) 0 q.toNat none (some z) ht hx (.inl ⟨rfl, rfl⟩) (.inr ⟨z, k, rfl, by rw [hz, Int.toNat_of_nonneg h0]⟩) (Nat.zero_le _) (by omega)
  rwa [List.drop_zero] at this
theorem pr_str_lh {x y z : Operand} {t : TypeId} {l : List UInt8} {k k' : IntKind} {q r : Int} (ht : P.underlying t = some .string) (hx : ev F x = some (.string (str l))) (hy : ev F y = some (.int k q)) (hz : ev F z = some (.int k' r)) (h0 : 0 ≤ q) (h1 : q ≤ r) (h2 : r ≤ l.length) :
    PR P n F C (.slice t x (some y) (some z) none) (.string (str ((l.take r.toNat).drop q.toNat))) :=
  pr_strslice (P := P) (n := n) (C := C) q.toNat r.toNat (some y) (some z) ht hx (.inr ⟨y, k, rfl, by rw [hy, Int.toNat_of_nonneg h0]⟩) (.inr ⟨z, k', rfl, by rw [hz, Int.toNat_of_nonneg (by omega)]⟩) (by omega) (by omega)

theorem foldl_push_str (l : List Int) : l.foldl (fun (r : ByteArray) (n : Int) => r.push (UInt8.ofNat n.toNat)) ByteArray.empty = str (l.map u8) := by
  have : ∀ (l : List Int) (r : List UInt8), l.foldl (fun (r : ByteArray) (n : Int) => r.push (UInt8.ofNat n.toNat)) (str r) = str (r ++ l.map u8) := by
    intro l
    induction l with
    | nil => intro r; simp
    | cons x l ih =>
      intro r
      rw [List.foldl_cons, show (str r).push (UInt8.ofNat x.toNat) = str (r ++ [u8 x]) by simp [str, ByteArray.push, u8], ih]
      simp
  exact (this l []).trans (by simp)
/-- bytes as a text -/
theorem pr_bytes_str {x : Operand} {s d e : TypeId} {p : Option Addr} {ln c : Nat} {l : List Int} (hs : P.underlying s = some (.slice e)) (he : P.underlying e = some (.int .u8)) (hd : P.underlying d = some .string)
    (hx : ev F x = some (.slice p ln c)) (h : Rdb C fb 1 p c l) (hln : ln = l.length) : PR P n F C (.convert s d x) (.string (str (l.map u8))) := fun _ _ _ _ _ a w ha hC => by
  subst hln
  simp only [execOp, ha.ev hx, Sem.run_bind]
  rw [run_convert_bytes_string w s d e p l.length c hs he hd]
  by_cases hl : l = []
  · subst hl
    cases p with
    | none => rfl
    | some a => rfl
  · obtain ⟨b, o, rfl⟩ := h.some w hC hl
    have hlc : (loadCells ⟨b, o, none⟩ (l.map (Value.int .u8)).length).run P w = .ok (l.map (Value.int .u8)).toArray w := run_loadCells w b o _ fun j hj => by
      have hj' : j < l.length := by simpa using hj
      have := h.cell w hC j 0 hj' (by decide)
      simp only [Nat.mul_one, Nat.add_zero, at_some] at this
      rw [this]
      simp [fb, hj']
    rw [List.length_map] at hlc
    rw [run_bytesToString w ⟨b, o, none⟩ l.length c l hlc, foldl_push_str]
    rfl
/-- a new block that is never written again -/
theorem HW.addmem {w w' : World} (h : HW w0 m Rs w) (ho : w'.os = w.os) (ht : w'.tape = w.tape) (hu : w'.output = w.output) (o : Obj) (hsz : w.heap.size ≤ w'.heap.size) (hold : ∀ k, k < w.heap.size → w'.heap[k]? = w.heap[k]?)
    (hnew : w'.heap[w.heap.size]? = some o) : m.le (fun k => if k = w.heap.size then some o else m k) ∧ HW w0 (fun k => if k = w.heap.size then some o else m k) Rs w' := by
  obtain ⟨s, hs, hm⟩ := h.res
  have hlt : ∀ k x, m k = some x → k < w.heap.size := fun k x hk => (Array.getElem?_eq_some_iff.1 (h.mem k x hk)).1
  refine ⟨fun k x hk => ?_, ho.trans h.os, ht.trans h.tape, hu.trans h.output, Nat.le_trans h.size hsz, fun k x hk => ?_, s, Sat.loc hs (fun k hk => hold k (Sat.dom hs hk)), fun k hk => ?_⟩
  · show (if k = w.heap.size then _ else _) = _
    rw [if_neg (fun e => by have := hlt k x hk; omega)]; exact hk
  · by_cases e : k = w.heap.size
    · subst e
      simp only [if_true] at hk
      rw [← hk]; exact hnew
    · simp only [if_neg e] at hk
      rw [hold k (hlt k x hk)]; exact h.mem k x hk
  · show (if k = w.heap.size then _ else _) = _
    rw [if_neg (fun e => by have := Sat.dom hs hk; omega)]; exact hm k hk
theorem bytesRow_str (l : List UInt8) (c : Nat) : bytesRow (str l) c = (l.map (fun b => Value.int .u8 (bI b))).toArray ++ Array.replicate (c - l.length) (.int .u8 0) := by
  unfold bytesRow
  rw [str_size]
  congr 1
  simp [str, bI]
/-- a text's bytes, in memory that stays -/
theorem At.str_bytes {ops : Array Oper} {rest : List Oper} {d : Nat} {x : Operand} {s t e : TypeId} {ty : TypeId} {pos : String} {aft : Array Edge} {l : List UInt8}
    (hs : P.underlying s = some .string) (ht : P.underlying t = some (.slice e)) (he : P.underlying e = some (.int .u8)) (hx : ev F x = some (.string (str l))) (hl : l.length ≤ 34359738368) (hd : Nat.blt d n = true)
    (h : ∀ p c m', m.le m' → Sl m' fb 1 p c (l.map bI) → At n w0 ((d, .slice p (l.map bI).length c) :: F) m' Rs (wpList P ops Q rest)) : At n w0 F m Rs (wpList P ops Q (⟨some d, .convert s t x, ty, pos, aft, none⟩ :: rest)) := fun a w ha hw =>
  wpList_plain rfl fun K hK => by
    have hrun := run_bytes_of_string (P := P) w s t e (str l) hs ht he
    have hge := grownCap_ge w (str l).size 0 e
    have hle := grownCap_le_maxLen w (str l).size 0 e (by rw [str_size]; simp only [maxLen]; omega)
    generalize grownCap w (str l).size 0 e = c at hrun hge hle
    rw [str_size] at hrun hge
    have hsize : (bytesRow (str l) c).size = c := by rw [bytesRow_str]; simp; omega
    unfold Oper.wp
    have hex : (execOp a.eval ⟨some d, .convert s t x, ty, pos, aft, none⟩).run P w = .ok (.value (.slice (some ⟨w.heap.size, 0, none⟩) l.length c)) (w.drew.alloc (.cells (bytesRow (str l) c) e ((bytesRow (str l) c).size, (bytesRow (str l) c).size + 1))) := by
      simp only [execOp, ha.ev hx, Sem.run_bind, hrun, Result.andThen]
      rfl
    rw [hex]
    obtain ⟨h1, h2⟩ := hw.addmem (w' := w.drew.alloc (.cells (bytesRow (str l) c) e ((bytesRow (str l) c).size, (bytesRow (str l) c).size + 1))) rfl rfl rfl (.cells (bytesRow (str l) c) e ((bytesRow (str l) c).size, (bytesRow (str l) c).size + 1))
      (by show w.heap.size ≤ (w.heap.push _).size; simp) (fun k hk => by show (w.heap.push _)[k]? = _; rw [Array.getElem?_push, if_neg (by omega)]) (by show (w.heap.push _)[w.heap.size]? = _; simp)
    refine hK _ _ (h (some ⟨w.heap.size, 0, none⟩) c _ h1 ⟨inferInstance, by simpa using hge, hle, (fun e => by cases e), fun a' ha' _ => ?_⟩ _ _ (by rw [List.length_map]; exact ha.put hd) h2)
    cases ha'
    refine ⟨rfl, _, _, _, if_pos rfl, by rw [hsize]; show 0 + c * 1 ≤ c; omega, fun i j hi hj => ?_⟩
    have hi' : i < l.length := by simpa using hi
    have hj0 : j = 0 := by omega
    subst hj0
    rw [bytesRow_str]
    rw [Array.getElem?_append_left (by simp; omega)]
    simp [hi', fb]

/-! ### structs held against one another -/
def andL : List Bool → Bool
  | [] => true
  | [b] => b
  | b :: c :: r => b && andL (c :: r)
theorem andL_nil : andL [] = true := rfl
theorem andL_cons (b : Bool) (r : List Bool) : andL (b :: r) = (b && andL r) := by
  cases r with
  | nil => simp [andL]
  | cons c r => rfl
theorem andL_append (a b : List Bool) : andL (a ++ b) = (andL a && andL b) := by
  induction a with
  | nil => simp [andL]
  | cons x a ih => rw [List.cons_append, andL_cons, andL_cons, ih, Bool.and_assoc]
def eqF (P : Program) (eqT : TypeId → List Value → List Value → Option (List Bool)) (xs ys : List Value) : List Field → Option (List Bool)
  | [] => some []
  | f :: fs => match f.name == "_" with
    | true => none
    | false => match P.info? f.type with
      | some i => match subl xs f.offset i.size with
        | some a => match subl ys f.offset i.size with
          | some b => match eqT f.type a b with
            | some r => match eqF P eqT xs ys fs with
              | some q => some (r ++ q)
              | none => none
            | none => none
          | none => none
        | none => none
      | none => none
def eqT (P : Program) : Nat → TypeId → List Value → List Value → Option (List Bool)
  | 0, _, _, _ => none
  | d + 1, t, xs, ys => match P.underlying t with
    | some (.struct fs) => match P.stoodInHeld t with
      | true => none
      | false => eqF P (eqT P d) xs ys fs.toList
    | some .bool => match xs, ys with
      | [.bool a], [.bool b] => some [a == b]
      | _, _ => none
    | some .string => match xs, ys with
      | [.string a], [.string b] => some [decide (a = b)]
      | _, _ => none
    | some (.int _) => match xs, ys with
      | [.int k a], [.int k' b] => match decide (k = k') with
        | true => some [decide (a = b)]
        | false => none
      | _, _ => none
    | _ => none
def eqN (P : Program) (t : TypeId) (xs ys : List Value) : Option (List Bool) := match eqT P 6 t xs ys with
  | some l => flat l
  | none => none

theorem run_part {t : TypeId} {b : Bool} (hb : isAggB P t = some b) {i : TypeInfo} (hi : P.info? t = some i) {xs a : List Value} {off : Nat} (hs : subl xs off i.size = some a) (v : Value) (hv : b = false → a = [v]) (w : World) :
    (part t xs.toArray off).run P w = .ok (if b then .agg a.toArray else v) w := by
  have hl := subl_length _ _ _ _ hs
  have hg := subl_get _ _ _ _ hs
  unfold part
  simp only [Sem.run_bind, run_isAgg hb, Result.andThen]
  cases b with
  | false =>
    have := hv rfl
    subst this
    simp only [List.length_singleton] at hl
    have h0 := hg 0 (by omega)
    simp only [Nat.add_zero, List.getElem?_cons_zero] at h0
    simp [h0, Sem.run]
  | true =>
    have hz : (sizeOf t).run P w = .ok i.size w := run_sizeOf (by simp [sizeB, hi]) w
    simp only [if_true, Sem.run_bind, hz, Result.andThen]
    have : xs.toArray.extract off (off + i.size) = a.toArray := by
      apply Array.ext_getElem?
      intro j
      rw [Array.getElem?_extract]
      by_cases hj : j < i.size
      · have := hg j hj
        rw [List.getElem?_toArray, List.getElem?_toArray, this]
        have : off + j < xs.length := by
          have h1 : a[j]? = some a[j] := List.getElem?_eq_getElem (by omega)
          rw [h1] at this
          exact (List.getElem?_eq_some_iff.1 this).1
        rw [if_pos (by simp; omega)]
      · rw [if_neg (by simp; omega), List.getElem?_toArray, List.getElem?_eq_none (by omega)]
    rw [this]; rfl

theorem eqT_run : ∀ (d e : Nat) (t : TypeId) (xs ys : List Value) (r : List Bool) (w : World), eqT P d t xs ys = some r →
    (isAggB P t = some true ∧ (Op.equalIn (d + e) t (.agg xs.toArray) (.agg ys.toArray)).run P w = .ok (andL r) w) ∨
    (isAggB P t = some false ∧ ∃ x y, xs = [x] ∧ ys = [y] ∧ (Op.equalIn (d + e) t x y).run P w = .ok (andL r) w)
  | 0, _, _, _, _, _, _, h => by cases h
  | d + 1, e, t, xs, ys, r, w, h => by
    have ih := eqT_run d e
    rw [show d + 1 + e = (d + e) + 1 by omega]
    unfold eqT at h
    cases hu : P.underlying t with
    | none => rw [hu] at h; cases h
    | some u =>
      rw [hu] at h
      cases u <;> simp only at h <;> try (cases h; done)
      case bool =>
        split at h
        · rename_i a b
          cases h
          refine .inr ⟨by simp [isAggB, hu], _, _, rfl, rfl, ?_⟩
          simp [Op.equalIn, run_underlying hu, andL]
        · cases h
      case string =>
        split at h
        · rename_i a b
          cases h
          refine .inr ⟨by simp [isAggB, hu], _, _, rfl, rfl, ?_⟩
          have : (a == b) = decide (a = b) := by rw [beq_toListBytes, str_eq]
          simp [Op.equalIn, run_underlying hu, andL, this]
        · cases h
      case int kk =>
        split at h
        · rename_i k a k' b
          by_cases hk : k = k'
          · subst hk
            simp only [decide_true] at h
            cases h
            refine .inr ⟨by simp [isAggB, hu], _, _, rfl, rfl, ?_⟩
            have : (a == b) = decide (a = b) := rfl
            simp [Op.equalIn, run_underlying hu, andL, this]
          · simp only [decide_eq_false hk] at h
            cases h
        · cases h
      case struct fs =>
        cases hp : P.stoodInHeld t with
        | true => rw [hp] at h; cases h
        | false =>
          rw [hp] at h
          simp only at h
          refine .inl ⟨by simp [isAggB, hu], ?_⟩
          have hfo : P.fieldsOf t = fs := by simp [Program.fieldsOf, hu]
          rw [run_equalIn_struct w (d + e) t _ _ (by rw [hfo]; exact hu) hp, hfo]
          generalize fs.toList = l at h
          clear hfo hu
          induction l generalizing r with
          | nil => cases h; rfl
          | cons f l ihl =>
            unfold eqF at h
            cases hn : f.name == "_" with
            | true => rw [hn] at h; cases h
            | false =>
              rw [hn] at h
              simp only at h
              have hn' : f.name ≠ "_" := by simpa using hn
              cases hi : P.info? f.type with
              | none => rw [hi] at h; cases h
              | some i =>
                rw [hi] at h
                simp only at h
                cases h1 : subl xs f.offset i.size with
                | none => rw [h1] at h; cases h
                | some a =>
                  cases h2 : subl ys f.offset i.size with
                  | none => rw [h1, h2] at h; cases h
                  | some b =>
                    rw [h1, h2] at h
                    simp only at h
                    cases h3 : eqT P d f.type a b with
                    | none => rw [h3] at h; cases h
                    | some q =>
                      rw [h3] at h
                      simp only at h
                      cases h4 : eqF P (eqT P d) xs ys l with
                      | none => rw [h4] at h; cases h
                      | some q2 =>
                        rw [h4] at h
                        cases h
                        have hr := ihl q2 h4
                        unfold Op.eqFields
                        rw [if_pos hn', andL_append]
                        rcases ih f.type a b q w h3 with ⟨hb, hq⟩ | ⟨hb, x, y, rfl, rfl, hq⟩
                        · have p1 := run_part hb hi h1 undef (fun e => by cases e) w
                          have p2 := run_part hb hi h2 undef (fun e => by cases e) w
                          simp only [if_true] at p1 p2
                          simp only [Sem.run_bind, p1, p2, hq, Result.andThen]
                          cases andL q with
                          | true => simpa using hr
                          | false => simp
                        · have p1 := run_part hb hi h1 x (fun _ => rfl) w
                          have p2 := run_part hb hi h2 y (fun _ => rfl) w
                          simp only [Bool.false_eq_true, if_false] at p1 p2
                          simp only [Sem.run_bind, p1, p2, hq, Result.andThen]
                          cases andL q with
                          | true => simpa using hr
                          | false => simp

theorem run_agg_equal {t : TypeId} {xs ys : List Value} {bs : List Bool} (hb : isAggB P t = some true) (h : eqN P t xs ys = some bs) (w : World) : (Op.equal t (.agg xs.toArray) (.agg ys.toArray)).run P w = .ok (andL bs) w := by
  unfold eqN at h
  cases h1 : eqT P 6 t xs ys with
  | none => rw [h1] at h; cases h
  | some l =>
    rw [h1] at h
    have := flat_eq _ _ h
    subst this
    unfold Op.equal
    rcases eqT_run 6 9994 t xs ys bs w h1 with ⟨_, h2⟩ | ⟨h2, _⟩
    · exact h2
    · rw [hb] at h2; cases h2
theorem run_agg_guard {t : TypeId} {x y : Operand} {xs ys : Array Value} (hg : P.eqGuardType P.depth t = false) (op : BinOp) (hop : op = .eql ∨ op = .neq) (w : World) : (eqGuard op t x y (.agg xs) (.agg ys)).run P w = .ok () w := by
  rcases hop with rfl | rfl <;> simp [eqGuard, hg]
theorem pr_aggeq {x y : Operand} {t u : TypeId} {xs ys : List Value} {bs : List Bool} (hx : ev F x = some (.agg xs.toArray)) (hy : ev F y = some (.agg ys.toArray)) (hb : isAggB P t = some true) (hg : P.eqGuardType P.depth t = false) (h : eqN P t xs ys = some bs) : PR P n F C (.binOp .eql t x y u) (.bool (andL bs)) :=
  pr_eql_of hx hy (run_agg_guard hg .eql (.inl rfl)) rfl (fun w _ => run_agg_equal hb h w)
theorem pr_aggne {x y : Operand} {t u : TypeId} {xs ys : List Value} {bs : List Bool} (hx : ev F x = some (.agg xs.toArray)) (hy : ev F y = some (.agg ys.toArray)) (hb : isAggB P t = some true) (hg : P.eqGuardType P.depth t = false) (h : eqN P t xs ys = some bs) : PR P n F C (.binOp .neq t x y u) (.bool (!andL bs)) :=
  pr_neq_of hx hy (run_agg_guard hg .neq (.inr rfl)) rfl (fun w _ => run_agg_equal hb h w)

/-- a field of a struct that is a value -/
theorem pr_field {x : Operand} {s : TypeId} {f : Nat} {xs a : List Value} {fs : Array Field} {fd : Field} {b : Bool} {i : TypeInfo} (hu : P.underlying s = some (.struct fs)) (hf : fs.toList[f]? = some fd) (hx : ev F x = some (.agg xs.toArray)) (hb : isAggB P fd.type = some b) (hi : P.info? fd.type = some i)
    (hs : subl xs fd.offset i.size = some a) (v : Value) (hv : b = false → a = [v]) : PR P n F C (.field s x f) (if b then .agg a.toArray else v) := fun _ _ _ _ _ ac w ha _ => by
  have hf' : fs[f]? = some fd := by simpa using hf
  have : (Instr.field s (.agg xs.toArray) f).run P w = .ok (if b then .agg a.toArray else v) w := by
    unfold Instr.field
    simp only [Sem.run_bind, run_underlying hu, Result.andThen, hf']
    have e0 : (asAgg (.agg xs.toArray) : Sem (Array Value)).run P w = .ok xs.toArray w := rfl
    simp only [Sem.run_bind, e0, Result.andThen]
    exact run_part hb hi hs v hv w
  simp only [execOp, ha.ev hx, Sem.run_bind, this, Result.andThen]
  rfl

theorem pr_field1 {x : Operand} {s : TypeId} {f : Nat} {xs : List Value} {fs : Array Field} {fd : Field} {i : TypeInfo} {v : Value} (hx : ev F x = some (.agg xs.toArray)) (hu : P.underlying s = some (.struct fs)) (hf : fs.toList[f]? = some fd) (hb : isAggB P fd.type = some false) (hi : P.info? fd.type = some i)
    (hs : subl xs fd.offset i.size = some [v]) : PR P n F C (.field s x f) v := pr_field hu hf hx hb hi hs v (fun _ => rfl)
theorem pr_fieldN {x : Operand} {s : TypeId} {f : Nat} {xs a : List Value} {fs : Array Field} {fd : Field} {i : TypeInfo} (hx : ev F x = some (.agg xs.toArray)) (hu : P.underlying s = some (.struct fs)) (hf : fs.toList[f]? = some fd) (hb : isAggB P fd.type = some true) (hi : P.info? fd.type = some i)
    (hs : subl xs fd.offset i.size = some a) : PR P n F C (.field s x f) (.agg a.toArray) := pr_field hu hf hx hb hi hs undef (fun e => by cases e)

/-! ### bits -/
theorem pr_bitop {op : BinOp} {x y : Operand} {k : IntKind} {p q r : Int} {t u : TypeId} (hop : op = .and ∨ op = .or ∨ op = .xor ∨ op = .andNot) (hx : ev F x = some (.int k p)) (hy : ev F y = some (.int k q)) (hr : bits op k p q = r) : PR P n F C (.binOp op t x y u) (.int k r) := by
  subst hr
  refine pr_bits hop hx hy fun w => ?_
  rcases hop with rfl | rfl | rfl | rfl <;> rfl
theorem pr_and {x y : Operand} {k : IntKind} {p q r : Int} {t u : TypeId} (hx : ev F x = some (.int k p)) (hy : ev F y = some (.int k q)) (hr : bits .and k p q = r) : PR P n F C (.binOp .and t x y u) (.int k r) := pr_bitop (.inl rfl) hx hy hr
theorem pr_or {x y : Operand} {k : IntKind} {p q r : Int} {t u : TypeId} (hx : ev F x = some (.int k p)) (hy : ev F y = some (.int k q)) (hr : bits .or k p q = r) : PR P n F C (.binOp .or t x y u) (.int k r) := pr_bitop (.inr (.inl rfl)) hx hy hr
theorem pr_xor {x y : Operand} {k : IntKind} {p q r : Int} {t u : TypeId} (hx : ev F x = some (.int k p)) (hy : ev F y = some (.int k q)) (hr : bits .xor k p q = r) : PR P n F C (.binOp .xor t x y u) (.int k r) := pr_bitop (.inr (.inr (.inl rfl))) hx hy hr
theorem pr_andnot {x y : Operand} {k : IntKind} {p q r : Int} {t u : TypeId} (hx : ev F x = some (.int k p)) (hy : ev F y = some (.int k q)) (hr : bits .andNot k p q = r) : PR P n F C (.binOp .andNot t x y u) (.int k r) := pr_bitop (.inr (.inr (.inr rfl))) hx hy hr
theorem pr_shlv {x y : Operand} {k k' : IntKind} {p q r : Int} {t u : TypeId} (hx : ev F x = some (.int k p)) (hy : ev F y = some (.int k' q)) (h0 : 0 ≤ q) (h1 : q ≤ k.bits) (hr : k.wrap (p * 2 ^ q.toNat) = r) : PR P n F C (.binOp .shl t x y u) (.int k r) :=
  pr_shl hx hy h0 (by rw [Nat.min_eq_left (by omega)]; exact hr)
theorem pr_shrv {x y : Operand} {k k' : IntKind} {p q r : Int} {t u : TypeId} (hx : ev F x = some (.int k p)) (hy : ev F y = some (.int k' q)) (h0 : 0 ≤ q) (h1 : q ≤ k.bits) (hr : p / 2 ^ q.toNat = r) : PR P n F C (.binOp .shr t x y u) (.int k r) :=
  pr_shr hx hy h0 (by rw [Nat.min_eq_left (by omega), Int.fdiv_eq_ediv_of_nonneg _ (Int.pow_nonneg (by decide))]; exact hr)

/-! ### functions as values -/
theorem pr_makeFunc {g : Fn} {xs ys : List Operand} {fv caps : List Value} (hx : evs F xs = some fv) (hy : evs F ys = some caps) : PR P n F C (.makeFunc g xs.toArray ys.toArray) (.func g fv.toArray caps.toArray) := fun _ _ _ _ _ a w ha _ => by
  simp [execOp, Instr.makeFunc, evs_map ha xs fv hx, evs_map ha ys caps hy]
/-- a text behind bytes that one owns -/
theorem At.append_str {ops : Array Oper} {rest : List Oper} {d : Nat} {x y : Operand} {t tx E : TypeId} {ty : TypeId} {pos : String} {aft : Array Edge} {ln : Nat} {p : Option Addr} {c : Nat} {l : List Int} {l2 : List UInt8} {Rs' : List Res}
    (hx : ev F x = some (.slice p ln c)) (hy : ev F y = some (.string (str l2))) (hp : Pick Rs (.own fb 1 E p c l) Rs') (ht : P.underlying t = some (.slice E)) (ht2 : P.underlying tx = some .string) (he : elemB P E 1 = true)
    (hln : ln = l.length) (hsm : l.length + l2.length ≤ 34359738368) (hd : Nat.blt d n = true)
    (h : ∀ p' c', At n w0 ((d, .slice p' (l ++ l2.map bI).length c') :: F) m (.own fb 1 E p' c' (l ++ l2.map bI) :: Rs') (wpList P ops Q rest)) :
    At n w0 F m Rs (wpList P ops Q (⟨some d, .call ⟨.builtin .append, #[x, y], #[t, tx]⟩, ty, pos, aft, none⟩ :: rest)) :=
  At.append (f := fb) (l2 := l2.map bI) inferInstance hp ht he hx hln hy (fun w hw => by
    have hr : ∀ w, (Builtin.firstCells 1 (l2.map bI).length (.string (str l2))).run P w = .ok ((l2.map bI).flatMap fb).toArray w := fun w => by
      have : ((l2.map bI).flatMap fb).toArray = ((str l2).extract 0 l2.length).data.map (fun b => Value.int .u8 b.toNat) := by
        rw [str_extract, List.take_length, List.drop_zero]
        simp [str, fb, bI, List.flatMap_map, List.flatMap_singleton']
        rw [← List.map_eq_flatMap]
      rw [this]
      simp [Builtin.firstCells, Sem.run]
    exact ⟨.inr ht2, fun w' => by rw [List.length_map, ← str_size l2]; rfl, hr w, hr w.drew, by rw [flatMap_length (f := fb) (sz := 1) (fun _ => rfl)], fun u hu => by
      obtain ⟨x, _, hx⟩ := List.mem_flatMap.1 hu
      simp at hx; subst hx; rfl⟩) (by simpa using hsm) hd h
theorem At.callf {ops : Array Oper} {rest : List Oper} {d : Option Nat} {g : FuncId} {x : Operand} {xs : List Operand} {ts : Array TypeId} {ty : TypeId} {pos : String} {aft : Array Edge} {fv caps vs : List Value} {A Rest : List Res} {R : Value → Mem → List Res → Prop}
    (hf : ev F x = some (.func (.func g) fv.toArray caps.toArray)) (hg : goFn P g = true) (hx : evs F xs = some vs) (hd : d.all (Nat.blt · n) = true) (hc : Ct P g (fv ++ vs ++ caps).toArray m A R) (hA : Take A Rs Rest)
    (h : ∀ v m' B, m.le m' → R v m' B → At n w0 (d.elim F (fun d => (d, v) :: F)) m' (B ++ Rest) (wpList P ops Q rest)) :
    At n w0 F m Rs (wpList P ops Q (⟨d, .call ⟨.value x, xs.toArray, ts⟩, ty, pos, aft, none⟩ :: rest)) := fun a w ha hw =>
  wpList_plain rfl fun K hK => by
    unfold Oper.wp
    have : (execOp a.eval ⟨d, .call ⟨.value x, xs.toArray, ts⟩, ty, pos, aft, none⟩).run P w = .ok (.enter g (fv ++ vs ++ caps).toArray) w := by
      have e0 : (Deferred.ofValue (.func (.func g) fv.toArray caps.toArray) (xs.toArray.map a.eval)).run P w = .ok { target := .fn (.func g) caps.toArray, args := fv.toArray ++ xs.toArray.map a.eval } w := rfl
      simp only [execOp, resolve, ha.ev hf, Sem.run_bind, e0, Result.andThen, invoke]
      have : (fv.toArray ++ xs.toArray.map a.eval ++ caps.toArray : Array Value) = (fv ++ vs ++ caps).toArray := by simp [evs_map ha xs vs hx]
      rw [this, run_callFunc hg]
    rw [this]
    refine (hc w0 Rest w (hw.ent hA.eqv.ent)).mono ?_
    rintro e w' ⟨v, m', B, rfl, hm, hR, hw'⟩
    refine hK _ _ (h v m' B hm hR _ _ ?_ hw')
    cases d with
    | none => exact ha
    | some d => exact ha.put (by simpa using hd)
end
end Go.J
