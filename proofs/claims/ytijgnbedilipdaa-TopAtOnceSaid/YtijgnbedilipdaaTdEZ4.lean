/- Part 4 of what the law's proof needs: rules of the walk, contracts of functions, plain laws. No condition. -/
import Derived.Test.YtijgnbedilipdaaTdEZ3
import Derived.Laws.StructEq
import Derived.Laws.Concat
import Derived.Laws.IdiomStrings
import Derived.Laws.BitsAll
import Derived.Scope
import Derived.Laws.OwnMore
import Derived.Laws.Externs
import Derived.Lib.SliceRun
set_option linter.unusedSimpArgs false
set_option linter.unusedVariables false
set_option linter.unusedSectionVars false
set_option maxRecDepth 20000
namespace Go.J
open Go
def keepL : List Nat → Fr → Option Fr
  | [], _ => some []
  | t :: ts, F => match look t F with
    | some v => match keepL ts F with
      | some r => some ((t, v) :: r)
      | none => none
    | none => keepL ts F
def str (l : List UInt8) : ByteArray := ⟨l.toArray⟩
theorem str_of (b : ByteArray) : ∃ l, b = str l := ⟨b.data.toList, by cases b; simp [str]⟩
theorem str_inj {a b : List UInt8} : str a = str b ↔ a = b := by
  constructor
  · intro h
    have := congrArg (fun x => x.data.toList) h
    simpa [str] using this
  · rintro rfl; rfl
theorem str_size (l : List UInt8) : (str l).size = l.length := by simp [str, ByteArray.size]
theorem str_toList (l : List UInt8) : (str l).data.toList = l := by simp [str]
def u8 (n : Int) : UInt8 := UInt8.ofNat n.toNat
def bI (b : UInt8) : Int := (b.toNat : Int)
theorem bI_bd (b : UInt8) : 0 ≤ bI b ∧ bI b < 256 := by
  have := b.toNat_lt
  unfold bI; omega
theorem u8_bI (b : UInt8) : u8 (bI b) = b := by simp [u8, bI]
theorem bI_u8 {n : Int} (h0 : 0 ≤ n) (h1 : n < 256) : bI (u8 n) = n := by
  unfold bI u8
  rw [UInt8.toNat_ofNat_of_lt' (by show n.toNat < 256; omega)]
  omega
theorem u8_map (l : List UInt8) : (l.map bI).map u8 = l := by
  rw [List.map_map]
  conv => rhs; rw [← List.map_id l]
  apply List.map_congr_left
  intro b _
  exact u8_bI b
abbrev fb (n : Int) : List Value := [.int .u8 n]
instance : Fl fb 1 := ⟨fun _ => rfl, fun x v h => by simp at h; subst h; rfl, by decide⟩
section
variable {P : Program} {n : Nat} {w0 : World} {F : Fr} {m : Mem} {Rs : List Res} {Q : Exit → Act → World → Prop} {K : Act → World → Prop} {C : World → Prop}
theorem At.loopk {c : Code} {σ : Type} {F0 : Fr} (L : List Nat) (upd : σ → Fr → Fr) (mx : σ → Mem) (Rx : σ → List Res) (I : σ → Prop) (μ : σ → Nat) (s0 : σ) (e0 : keepL L F = some F0) (h0 : I s0) (hF : Subs (upd s0 F0) F) (hm : (mx s0).le m) (hR : Ent Rs (Rx s0))
    (round : ∀ s, I s → At n w0 (upd s F0) (mx s) (Rx s) (c.wp P (Exit.then (fun a w => ∃ s', (I s' ∧ μ s' < μ s) ∧ HF n (upd s' F0) a ∧ HW w0 (mx s') (Rx s') w) Q))) :
    At n w0 F m Rs ((Code.loop c).wp P Q) := by
  have _ := e0
  exact At.loop (fun s => upd s F0) mx Rx I μ s0 h0 hF hm hR round
/-- where the ways of an 'if' meet -/
theorem At.cutk {t : Nat} {x1 x2 : Code} {b : Bool} {σ : Type} {F0 : Fr} (L : List Nat) (upd : σ → Fr → Fr) (mx : σ → Mem) (Rx : σ → List Res) (I : σ → Prop) (e0 : keepL L F = some F0) (hc : look t F = some (.bool b))
    (hb : (b = true → At n w0 F m Rs (x1.wp P (Exit.then (fun a w => ∃ s, I s ∧ HF n (upd s F0) a ∧ HW w0 (mx s) (Rx s) w) Q))) ∧
      (b = false → At n w0 F m Rs (x2.wp P (Exit.then (fun a w => ∃ s, I s ∧ HF n (upd s F0) a ∧ HW w0 (mx s) (Rx s) w) Q))))
    (hy : ∀ s, I s → At n w0 (upd s F0) (mx s) (Rx s) K) : At n w0 F m Rs ((Code.cond (.tmp t) x1 x2).wp P (Exit.then K Q)) := by
  have _ := e0
  refine fun a w ha hw => Code.wp_mono (fun e a' w' q => ?_) (At.cond (c := .tmp t) hc hb.1 hb.2 a w ha hw)
  cases e <;> first | exact q | (obtain ⟨s, hI, h1, h2⟩ := q; exact hy s hI a' w' h1 h2)
/-- where the ways out of a block meet -/
theorem At.cutb {id : Nat} {x : Code} {σ : Type} {F0 : Fr} (L : List Nat) (upd : σ → Fr → Fr) (mx : σ → Mem) (Rx : σ → List Res) (I : σ → Prop) (e0 : keepL L F = some F0)
    (hx : At n w0 F m Rs (x.wp P (Exit.inBlock id (Exit.then (fun a w => ∃ s, I s ∧ HF n (upd s F0) a ∧ HW w0 (mx s) (Rx s) w) Q))))
    (hy : ∀ s, I s → At n w0 (upd s F0) (mx s) (Rx s) K) : At n w0 F m Rs ((Code.block id x).wp P (Exit.then K Q)) := by
  have _ := e0
  refine fun a w ha hw => Code.wp_mono (fun e a' w' q => ?_) (At.block hx a w ha hw)
  cases e <;> first | exact q | (obtain ⟨s, hI, h1, h2⟩ := q; exact hy s hI a' w' h1 h2)
theorem At.idd (h : At n w0 F m Rs K) : At n w0 F m Rs K := h
theorem AtQ.idd {ops : Array Oper} {rest : List Oper} {Qq : Act → Prop} (h : AtQ P n F C ops Qq rest) : AtQ P n F C ops Qq rest := h
theorem AtM.idd {X : List Res} {l : List Oper} {f : Nat} {s : Array Bool} {p : Plan} (h : AtM P n w0 F m Rs X K l f s p) : AtM P n w0 F m Rs X K l f s p := h
/-- less is known from here on -/
theorem At.trim {F0 : Fr} (L : List Nat) (e0 : keepL L F = some F0) (hF : Subs F0 F) (h : At n w0 F0 m Rs K) : At n w0 F m Rs K := by
  have _ := e0
  exact At.frame hF h
/-- a round's end -/
theorem At.reachk {σ : Type} {Fx : σ → Fr} {mx : σ → Mem} {Rx : σ → List Res} {I : σ → Prop} (s : σ) (hF : Subs (Fx s) F) (hm : (mx s).le m) (hR : Ent Rs (Rx s)) (hI : I s) :
    At n w0 F m Rs (fun a w => ∃ s, I s ∧ HF n (Fx s) a ∧ HW w0 (mx s) (Rx s) w) := At.reach s hI hF hm hR
theorem Rdb.subl {α : Type} [Inhabited α] {f : α → List Value} {sz : Nat} {p : Option Addr} {c : Nat} {l : List α} (h : Rdb C f sz p c l) (lo : Nat) (h1 : lo ≤ l.length) : Rdb C f sz (subp p c lo sz) (c - lo) (l.drop lo) := by
  have := Rdb.sub h lo l.length h1 (Nat.le_refl _)
  rwa [List.take_length] at this
theorem Rdb.subh {α : Type} [Inhabited α] {f : α → List Value} {sz : Nat} {p : Option Addr} {c : Nat} {l : List α} (h : Rdb C f sz p c l) (hi : Nat) (h1 : hi ≤ l.length) : Rdb C f sz (subp p c 0 sz) (c - 0) (l.take hi) := by
  have := Rdb.sub h 0 hi (Nat.zero_le _) h1
  rwa [List.drop_zero] at this
theorem Sl.subl {α : Type} [Inhabited α] {f : α → List Value} {sz : Nat} {p : Option Addr} {c : Nat} {l : List α} (h : Sl m f sz p c l) (lo : Nat) (h1 : lo ≤ l.length) : Sl m f sz (subp p c lo sz) (c - lo) (l.drop lo) := by
  have := Sl.sub h h1 (Nat.le_refl _)
  rwa [List.take_length] at this
theorem Sl.subh {α : Type} [Inhabited α] {f : α → List Value} {sz : Nat} {p : Option Addr} {c : Nat} {l : List α} (h : Sl m f sz p c l) (hi : Nat) (h1 : hi ≤ l.length) : Sl m f sz (subp p c 0 sz) (c - 0) (l.take hi) := by
  have := Sl.sub h (Nat.zero_le _) h1
  rwa [List.drop_zero] at this
theorem pr_load_ownfN {α : Type} [Inhabited α] {f : α → List Value} {sz : Nat} {E : TypeId} {p : Option Addr} {c : Nat} {l : List α} {Rs' : List Res} {x : Operand} {t : TypeId} {k j q : Nat} {vs : List Value} (hx : ev F x = some (.pointer (some (at_ p (k * sz + j))))) (hp : Pick Rs (.own f sz E p c l) Rs') (hf : Fl f sz) (hk : k < l.length) (hj : Nat.ble (j + q) sz = true) (ht : isAggB P t = some true) (hs : sizeB P t = some q)
    (hv : subl (f l[k]!) j q = some vs) : PR P n F (HW w0 m Rs) (.load t x) (.agg vs.toArray) := pr_load_slfN (own_rdb hf hp) hk hj ht hs hx hv
theorem pr_load_memefN {α : Type} [Inhabited α] {f : α → List Value} {sz : Nat} {p : Option Addr} {c : Nat} {l : List α} {x : Operand} {t : TypeId} {k j q : Nat} {vs : List Value} (hx : ev F x = some (.pointer (some (at_ p (k * sz + j))))) (h : Sl m f sz p c l) (hk : k < l.length) (hj : Nat.ble (j + q) sz = true) (ht : isAggB P t = some true) (hs : sizeB P t = some q)
    (hv : subl (f l[k]!) j q = some vs) : PR P n F (HW w0 m Rs) (.load t x) (.agg vs.toArray) := pr_load_slfN h.rdb hk hj ht hs hx hv
theorem look_int {t : Nat} {F : Fr} {k : IntKind} {a b : Int} (h : look t F = some (.int k a)) (e : a = b) : look t F = some (.int k b) := e ▸ h
/-! ### texts -/
theorem pr_len_str {x : Operand} {t : TypeId} {l : List UInt8} (ht : P.underlying t = some .string) (hx : ev F x = some (.string (str l))) : PR P n F C (.call ⟨.builtin .len, #[x], #[t]⟩) (.int .i64 (l.length : Int)) := by
  have := pr_len_st (n := n) (C := C) ht hx
  rwa [str_size] at this
theorem pr_streq {x y : Operand} {p q : List UInt8} {t u : TypeId} (hx : ev F x = some (.string (str p))) (hy : ev F y = some (.string (str q))) : PR P n F C (.binOp .eql t x y u) (.bool (decide (p = q))) := by
  have := pr_seql (P := P) (n := n) (C := C) (t := t) (u := u) hx hy
  rwa [show decide (str p = str q) = decide (p = q) by simp [str_inj]] at this
theorem pr_strne {x y : Operand} {p q : List UInt8} {t u : TypeId} (hx : ev F x = some (.string (str p))) (hy : ev F y = some (.string (str q))) : PR P n F C (.binOp .neq t x y u) (.bool (!decide (p = q))) := by
  have := pr_sneq (P := P) (n := n) (C := C) (t := t) (u := u) hx hy
  rwa [show decide (str p = str q) = decide (p = q) by simp [str_inj]] at this
theorem str_append (p q : List UInt8) : str p ++ str q = str (p ++ q) := ByteArray.mk_append_mk p q
theorem pr_stradd {x y : Operand} {p q : List UInt8} {t u : TypeId} (hx : ev F x = some (.string (str p))) (hy : ev F y = some (.string (str q))) (hl : p.length + q.length ≤ 9223372036854775807) : PR P n F C (.binOp .add t x y u) (.string (str (p ++ q))) := fun _ _ _ _ _ a w ha _ => by
  have hg : ∀ w, (eqGuard .add t x y (.string (str p)) (.string (str q))).run P w = .ok () w := fun _ => rfl
  have hb : binOp .add t (.string (str p)) (.string (str q)) = Op.stringOp .add (str p) (str q) := rfl
  simp only [execOp, ha.ev hx, ha.ev hy, hb, Sem.run_bind, hg, Result.andThen]
  rw [run_string_add_sum w _ _ (by rw [str_size, str_size]; exact hl), str_append]
  rfl
theorem str_getElem (l : List UInt8) (i : Nat) (h : i < l.length) : (str l)[i]? = some l[i]! := by
  have h' : i < (str l).size := by rw [str_size]; exact h
  rw [ByteArray.getElem?_lt' _ _ h', getElem!_pos l i h]
  congr 1
theorem pr_strindex {x y : Operand} {t : TypeId} {l : List UInt8} {k : IntKind} {q : Int} (ht : P.underlying t = some .string) (hx : ev F x = some (.string (str l))) (hy : ev F y = some (.int k q)) (h0 : 0 ≤ q) (h1 : q < l.length) :
    PR P n F C (.index t x y) (.int .u8 (bI l[q.toNat]!)) := fun _ _ _ _ _ a w ha _ => by
  simp only [execOp, ha.ev hx, ha.ev hy, Sem.run_bind]
  have : (Instr.index t (.string (str l)) (.int k q)).run P w = .ok (.int .u8 (bI l[q.toNat]!)) w := by
    unfold Instr.index
    have hr : (underlying t).run P w = .ok .string w := run_underlying ht w
    simp only [asIntOf, pure, Sem.run_bind, Sem.run, Result.andThen, hr, h0, if_true]
    rw [str_getElem l _ (by omega)]
    rfl
  rw [this]
  rfl
theorem str_extract (l : List UInt8) (a b : Nat) : (str l).extract a b = str ((l.take b).drop a) := by
  have := ByteArray.extract_mk l a b
  show (ByteArray.mk l.toArray).extract a b = _
  rw [this, List.drop_take]
  rfl
theorem run_slice_str {t : TypeId} (ht : P.underlying t = some .string) (l : List UInt8) (lo hi : Nat) (h1 : lo ≤ hi) (h2 : hi ≤ l.length) (vl vh : Option Value)
    (hl : (vl = none ∧ lo = 0) ∨ ∃ k, vl = some (.int k (lo : Int))) (hh : (vh = none ∧ hi = l.length) ∨ ∃ k, vh = some (.int k (hi : Int))) (w : World) :
    (Instr.sliceAt t (.string (str l)) vl vh none).run P w = .ok (.string (str ((l.take hi).drop lo))) w := by
  have hr : ∀ w, (underlying t).run P w = .ok .string w := run_underlying ht
  unfold Instr.sliceAt
  simp only [Sem.run_bind, hr, Result.andThen]
  unfold Instr.slice
  simp only [Sem.run_bind, hr, Result.andThen]
  have hb : (Instr.sliceBounds false (str l).size (str l).size vl vh none).run P w = .ok (lo, hi, (str l).size) w := by
    rw [str_size]
    unfold Instr.sliceBounds Instr.sliceBound
    rcases hl with ⟨rfl, rfl⟩ | ⟨k, rfl⟩ <;> rcases hh with ⟨rfl, rfl⟩ | ⟨k', rfl⟩ <;>
      simp [asIntOf, pure, Sem.run, bind, Sem.bind, h1, h2]
  simp [hb, str_extract, Sem.run]
theorem pr_strslice {x : Operand} {t : TypeId} {l : List UInt8} (lo hi : Nat) (vl vh : Option Operand) (ht : P.underlying t = some .string) (hx : ev F x = some (.string (str l)))
    (hl : (vl = none ∧ lo = 0) ∨ ∃ y k, vl = some y ∧ ev F y = some (.int k (lo : Int))) (hh : (vh = none ∧ hi = l.length) ∨ ∃ y k, vh = some y ∧ ev F y = some (.int k (hi : Int))) (h1 : lo ≤ hi) (h2 : hi ≤ l.length) :
    PR P n F C (.slice t x vl vh none) (.string (str ((l.take hi).drop lo))) := fun _ _ _ _ _ a w ha _ => by
  simp only [execOp, ha.ev hx, Sem.run_bind, Option.map_none]
  rw [run_slice_str ht l lo hi h1 h2 (vl.map a.eval) (vh.map a.eval) ?_ ?_ w]
  · rfl
  · rcases hl with ⟨rfl, rfl⟩ | ⟨y, k, rfl, hy⟩
    · exact .inl ⟨rfl, rfl⟩
    · exact .inr ⟨k, by simp [ha.ev hy]⟩
  · rcases hh with ⟨rfl, rfl⟩ | ⟨y, k, rfl, hy⟩
    · exact .inl ⟨rfl, rfl⟩
    · exact .inr ⟨k, by simp [ha.ev hy]⟩
theorem pr_str_l {x y : Operand} {t : TypeId} {l : List UInt8} {k : IntKind} {q : Int} (ht : P.underlying t = some .string) (hx : ev F x = some (.string (str l))) (hy : ev F y = some (.int k q)) (h0 : 0 ≤ q) (h1 : q ≤ l.length) :
    PR P n F C (.slice t x (some y) none none) (.string (str (l.drop q.toNat))) := by
  have := pr_strslice (P := P) (n := n) (C := C) q.toNat l.length (some y) none ht hx (.inr ⟨y, k, rfl, by rw [hy, Int.toNat_of_nonneg h0]⟩) (.inl ⟨rfl, rfl⟩) (by omega) (Nat.le_refl _)
  rwa [List.take_length] at this
theorem pr_str_h {x z : Operand} {t : TypeId} {l : List UInt8} {k : IntKind} {q : Int} (ht : P.underlying t = some .string) (hx : ev F x = some (.string (str l))) (hz : ev F z = some (.int k q)) (h0 : 0 ≤ q) (h1 : q ≤ l.length) :
    PR P n F C (.slice t x none (some z) none) (.string (str (l.take q.toNat))) := by
  have := pr_strslice (P := P) (n := n) (C := C) 0 q.toNat none (some z) ht hx (.inl ⟨rfl, rfl⟩) (.inr ⟨z, k, rfl, by rw [hz, Int.toNat_of_nonneg h0]⟩) (Nat.zero_le _) (by omega)
  rwa [List.drop_zero] at this
theorem pr_str_lh {x y z : Operand} {t : TypeId} {l : List UInt8} {k k' : IntKind} {q r : Int} (ht : P.underlying t = some .string) (hx : ev F x = some (.string (str l))) (hy : ev F y = some (.int k q)) (hz : ev F z = some (.int k' r)) (h0 : 0 ≤ q) (h1 : q ≤ r) (h2 : r ≤ l.length) :
    PR P n F C (.slice t x (some y) (some z) none) (.string (str ((l.take r.toNat).drop q.toNat))) :=
  pr_strslice (P := P) (n := n) (C := C) q.toNat r.toNat (some y) (some z) ht hx (.inr ⟨y, k, rfl, by rw [hy, Int.toNat_of_nonneg h0]⟩) (.inr ⟨z, k', rfl, by rw [hz, Int.toNat_of_nonneg (by omega)]⟩) (by omega) (by omega)
theorem foldl_push_str (l : List Int) : l.foldl (fun (r : ByteArray) (n : Int) => r.push (UInt8.ofNat n.toNat)) ByteArray.empty = str (l.map u8) := by
  have : ∀ (l : List Int) (r : List UInt8), l.foldl (fun (r : ByteArray) (n : Int) => r.push (UInt8.ofNat n.toNat)) (str r) = str (r ++ l.map u8) := by
    intro l
    induction l with
    | nil => intro r; simp
    | cons x l ih =>
      intro r
      rw [List.foldl_cons, show (str r).push (UInt8.ofNat x.toNat) = str (r ++ [u8 x]) by simp [str, ByteArray.push, u8], ih]
      simp
  exact (this l []).trans (by simp)
/-- bytes as a text -/
theorem pr_bytes_str {x : Operand} {s d e : TypeId} {p : Option Addr} {ln c : Nat} {l : List Int} (hs : P.underlying s = some (.slice e)) (he : P.underlying e = some (.int .u8)) (hd : P.underlying d = some .string)
    (hx : ev F x = some (.slice p ln c)) (h : Rdb C fb 1 p c l) (hln : ln = l.length) : PR P n F C (.convert s d x) (.string (str (l.map u8))) := fun _ _ _ _ _ a w ha hC => by
  subst hln
  simp only [execOp, ha.ev hx, Sem.run_bind]
  rw [run_convert_bytes_string w s d e p l.length c hs he hd]
  by_cases hl : l = []
  · subst hl
    cases p with
    | none => rfl
    | some a => rfl
  · obtain ⟨b, o, rfl⟩ := h.some w hC hl
    have hlc : (loadCells ⟨b, o, none⟩ (l.map (Value.int .u8)).length).run P w = .ok (l.map (Value.int .u8)).toArray w := run_loadCells w b o _ fun j hj => by
      have hj' : j < l.length := by simpa using hj
      have := h.cell w hC j 0 hj' (by decide)
      simp only [Nat.mul_one, Nat.add_zero, at_some] at this
      rw [this]
      simp [fb, hj']
    rw [List.length_map] at hlc
    rw [run_bytesToString w ⟨b, o, none⟩ l.length c l hlc, foldl_push_str]
    rfl
/-- a new block that is never written again -/
theorem HW.addmem {w w' : World} (h : HW w0 m Rs w) (ho : w'.os = w.os) (ht : w'.tape = w.tape) (hu : w'.output = w.output) (o : Obj) (hsz : w.heap.size ≤ w'.heap.size) (hold : ∀ k, k < w.heap.size → w'.heap[k]? = w.heap[k]?)
    (hnew : w'.heap[w.heap.size]? = some o) (hdr : w.drawn ≤ w'.drawn := by first | exact Nat.le_refl _ | exact Nat.le_succ _ | exact run_drawn _ (by assumption)) : m.le (fun k => if k = w.heap.size then some o else m k) ∧ HW w0 (fun k => if k = w.heap.size then some o else m k) Rs w' := by
  obtain ⟨s, hs, hm⟩ := h.res
  have hlt : ∀ k x, m k = some x → k < w.heap.size := fun k x hk => (Array.getElem?_eq_some_iff.1 (h.mem k x hk)).1
  refine ⟨fun k x hk => ?_, ho.trans h.os, ht.trans h.tape, hu.trans h.output, Nat.le_trans h.size hsz, Nat.le_trans h.dr hdr, fun k x hk => ?_, s, Sat.loc hs (fun k hk => hold k (Sat.dom hs hk)), fun k hk => ?_⟩
  · show (if k = w.heap.size then _ else _) = _
    rw [if_neg (fun e => by have := hlt k x hk; omega)]; exact hk
  · by_cases e : k = w.heap.size
    · subst e
      simp only [if_true] at hk
      rw [← hk]; exact hnew
    · simp only [if_neg e] at hk
      rw [hold k (hlt k x hk)]; exact h.mem k x hk
  · show (if k = w.heap.size then _ else _) = _
    rw [if_neg (fun e => by have := Sat.dom hs hk; omega)]; exact hm k hk
theorem bytesRow_str (l : List UInt8) (c : Nat) : bytesRow (str l) c = (l.map (fun b => Value.int .u8 (bI b))).toArray ++ Array.replicate (c - l.length) (.int .u8 0) := by
  unfold bytesRow
  rw [str_size]
  congr 1
  simp [str, bI]
/-- a text's bytes, in memory that stays -/
theorem At.str_bytes {ops : Array Oper} {rest : List Oper} {d : Nat} {x : Operand} {s t e : TypeId} {ty : TypeId} {pos : String} {aft : Array Edge} {l : List UInt8}
    (hs : P.underlying s = some .string) (ht : P.underlying t = some (.slice e)) (he : P.underlying e = some (.int .u8)) (hx : ev F x = some (.string (str l))) (hl : l.length ≤ 34359738368) (hd : Nat.blt d n = true)
    (h : ∀ p c m', m.le m' → Sl m' fb 1 p c (l.map bI) → At n w0 ((d, .slice p (l.map bI).length c) :: F) m' Rs (wpList P ops Q rest)) : At n w0 F m Rs (wpList P ops Q (⟨some d, .convert s t x, ty, pos, aft, none⟩ :: rest)) := fun a w ha hw =>
  wpList_plain rfl fun K hK => by
    have hrun := run_bytes_of_string (P := P) w s t e (str l) hs ht he
    have hge := grownCap_ge w (str l).size 0 e
    have hle := grownCap_le_maxLen w (str l).size 0 e (by rw [str_size]; simp only [maxLen]; omega)
    generalize grownCap w (str l).size 0 e = c at hrun hge hle
    rw [str_size] at hrun hge
    have hsize : (bytesRow (str l) c).size = c := by rw [bytesRow_str]; simp; omega
    unfold Oper.wp
    have hex : (execOp a.eval ⟨some d, .convert s t x, ty, pos, aft, none⟩).run P w = .ok (.value (.slice (some ⟨w.heap.size, 0, none⟩) l.length c)) (w.drew.alloc (.cells (bytesRow (str l) c) e ((bytesRow (str l) c).size, (bytesRow (str l) c).size + 1))) := by
      simp only [execOp, ha.ev hx, Sem.run_bind, hrun, Result.andThen]
      rfl
    rw [hex]
    obtain ⟨h1, h2⟩ := hw.addmem (w' := w.drew.alloc (.cells (bytesRow (str l) c) e ((bytesRow (str l) c).size, (bytesRow (str l) c).size + 1))) rfl rfl rfl (.cells (bytesRow (str l) c) e ((bytesRow (str l) c).size, (bytesRow (str l) c).size + 1))
      (by show w.heap.size ≤ (w.heap.push _).size; simp) (fun k hk => by show (w.heap.push _)[k]? = _; rw [Array.getElem?_push, if_neg (by omega)]) (by show (w.heap.push _)[w.heap.size]? = _; simp)
    refine hK _ _ (h (some ⟨w.heap.size, 0, none⟩) c _ h1 ⟨inferInstance, by simpa using hge, hle, (fun e => by cases e), fun a' ha' _ => ?_⟩ _ _ (by rw [List.length_map]; exact ha.put hd) h2)
    cases ha'
    refine ⟨rfl, _, _, _, if_pos rfl, by rw [hsize]; show 0 + c * 1 ≤ c; omega, fun i j hi hj => ?_⟩
    have hi' : i < l.length := by simpa using hi
    have hj0 : j = 0 := by omega
    subst hj0
    rw [bytesRow_str]
    rw [Array.getElem?_append_left (by simp; omega)]
    simp [hi', fb]
/-! ### structs held against one another -/
def andL : List Bool → Bool
  | [] => true
  | [b] => b
  | b :: c :: r => b && andL (c :: r)
theorem andL_nil : andL [] = true := rfl
theorem andL_cons (b : Bool) (r : List Bool) : andL (b :: r) = (b && andL r) := by
  cases r with
  | nil => simp [andL]
  | cons c r => rfl
theorem andL_append (a b : List Bool) : andL (a ++ b) = (andL a && andL b) := by
  induction a with
  | nil => simp [andL]
  | cons x a ih => rw [List.cons_append, andL_cons, andL_cons, ih, Bool.and_assoc]
def eqF (P : Program) (eqT : TypeId → List Value → List Value → Option (List Bool)) (xs ys : List Value) : List Field → Option (List Bool)
  | [] => some []
  | f :: fs => match f.name == "_" with
    | true => none
    | false => match P.info? f.type with
      | some i => match subl xs f.offset i.size with
        | some a => match subl ys f.offset i.size with
          | some b => match eqT f.type a b with
            | some r => match eqF P eqT xs ys fs with
              | some q => some (r ++ q)
              | none => none
            | none => none
          | none => none
        | none => none
      | none => none
def eqT (P : Program) : Nat → TypeId → List Value → List Value → Option (List Bool)
  | 0, _, _, _ => none
  | d + 1, t, xs, ys => match P.underlying t with
    | some (.struct fs) => match P.stoodInHeld t with
      | true => none
      | false => eqF P (eqT P d) xs ys fs.toList
    | some .bool => match xs, ys with
      | [.bool a], [.bool b] => some [a == b]
      | _, _ => none
    | some .string => match xs, ys with
      | [.string a], [.string b] => some [decide (a = b)]
      | _, _ => none
    | some (.int _) => match xs, ys with
      | [.int k a], [.int k' b] => match decide (k = k') with
        | true => some [decide (a = b)]
        | false => none
      | _, _ => none
    | _ => none
def eqN (P : Program) (t : TypeId) (xs ys : List Value) : Option (List Bool) := match eqT P 6 t xs ys with
  | some l => flat l
  | none => none
theorem run_part {t : TypeId} {b : Bool} (hb : isAggB P t = some b) {i : TypeInfo} (hi : P.info? t = some i) {xs a : List Value} {off : Nat} (hs : subl xs off i.size = some a) (v : Value) (hv : b = false → a = [v]) (w : World) :
    (part t xs.toArray off).run P w = .ok (if b then .agg a.toArray else v) w := by
  have hl := subl_length _ _ _ _ hs
  have hg := subl_get _ _ _ _ hs
  unfold part
  simp only [Sem.run_bind, run_isAgg hb, Result.andThen]
  cases b with
  | false =>
    have := hv rfl
    subst this
    simp only [List.length_singleton] at hl
    have h0 := hg 0 (by omega)
    simp only [Nat.add_zero, List.getElem?_cons_zero] at h0
    simp [h0, Sem.run]
  | true =>
    have hz : (sizeOf t).run P w = .ok i.size w := run_sizeOf (by simp [sizeB, hi]) w
    simp only [if_true, Sem.run_bind, hz, Result.andThen]
    have : xs.toArray.extract off (off + i.size) = a.toArray := by
      apply Array.ext_getElem?
      intro j
      rw [Array.getElem?_extract]
      by_cases hj : j < i.size
      · have := hg j hj
        rw [List.getElem?_toArray, List.getElem?_toArray, this]
        have : off + j < xs.length := by
          have h1 : a[j]? = some a[j] := List.getElem?_eq_getElem (by omega)
          rw [h1] at this
          exact (List.getElem?_eq_some_iff.1 this).1
        rw [if_pos (by simp; omega)]
      · rw [if_neg (by simp; omega), List.getElem?_toArray, List.getElem?_eq_none (by omega)]
    rw [this]; rfl
theorem eqT_run : ∀ (d e : Nat) (t : TypeId) (xs ys : List Value) (r : List Bool) (w : World), eqT P d t xs ys = some r →
    (isAggB P t = some true ∧ (Op.equalIn (d + e) t (.agg xs.toArray) (.agg ys.toArray)).run P w = .ok (andL r) w) ∨
    (isAggB P t = some false ∧ ∃ x y, xs = [x] ∧ ys = [y] ∧ (Op.equalIn (d + e) t x y).run P w = .ok (andL r) w)
  | 0, _, _, _, _, _, _, h => by cases h
  | d + 1, e, t, xs, ys, r, w, h => by
    have ih := eqT_run d e
    rw [show d + 1 + e = (d + e) + 1 by omega]
    unfold eqT at h
    cases hu : P.underlying t with
    | none => rw [hu] at h; cases h
    | some u =>
      rw [hu] at h
      cases u <;> simp only at h <;> try (cases h; done)
      case bool =>
        split at h
        · rename_i a b
          cases h
          refine .inr ⟨by simp [isAggB, hu], _, _, rfl, rfl, ?_⟩
          simp [Op.equalIn, run_underlying hu, andL]
        · cases h
      case string =>
        split at h
        · rename_i a b
          cases h
          refine .inr ⟨by simp [isAggB, hu], _, _, rfl, rfl, ?_⟩
          have : (a == b) = decide (a = b) := by rw [beq_toListBytes, str_eq]
          simp [Op.equalIn, run_underlying hu, andL, this]
        · cases h
      case int kk =>
        split at h
        · rename_i k a k' b
          by_cases hk : k = k'
          · subst hk
            simp only [decide_true] at h
            cases h
            refine .inr ⟨by simp [isAggB, hu], _, _, rfl, rfl, ?_⟩
            have : (a == b) = decide (a = b) := rfl
            simp [Op.equalIn, run_underlying hu, andL, this]
          · simp only [decide_eq_false hk] at h
            cases h
        · cases h
      case struct fs =>
        cases hp : P.stoodInHeld t with
        | true => rw [hp] at h; cases h
        | false =>
          rw [hp] at h
          simp only at h
          refine .inl ⟨by simp [isAggB, hu], ?_⟩
          have hfo : P.fieldsOf t = fs := by simp [Program.fieldsOf, hu]
          rw [run_equalIn_struct w (d + e) t _ _ (by rw [hfo]; exact hu) hp, hfo]
          generalize fs.toList = l at h
          clear hfo hu
          induction l generalizing r with
          | nil => cases h; rfl
          | cons f l ihl =>
            unfold eqF at h
            cases hn : f.name == "_" with
            | true => rw [hn] at h; cases h
            | false =>
              rw [hn] at h
              simp only at h
              have hn' : f.name ≠ "_" := by simpa using hn
              cases hi : P.info? f.type with
              | none => rw [hi] at h; cases h
              | some i =>
                rw [hi] at h
                simp only at h
                cases h1 : subl xs f.offset i.size with
                | none => rw [h1] at h; cases h
                | some a =>
                  cases h2 : subl ys f.offset i.size with
                  | none => rw [h1, h2] at h; cases h
                  | some b =>
                    rw [h1, h2] at h
                    simp only at h
                    cases h3 : eqT P d f.type a b with
                    | none => rw [h3] at h; cases h
                    | some q =>
                      rw [h3] at h
                      simp only at h
                      cases h4 : eqF P (eqT P d) xs ys l with
                      | none => rw [h4] at h; cases h
                      | some q2 =>
                        rw [h4] at h
                        cases h
                        have hr := ihl q2 h4
                        unfold Op.eqFields
                        rw [if_pos hn', andL_append]
                        rcases ih f.type a b q w h3 with ⟨hb, hq⟩ | ⟨hb, x, y, rfl, rfl, hq⟩
                        · have p1 := run_part hb hi h1 undef (fun e => by cases e) w
                          have p2 := run_part hb hi h2 undef (fun e => by cases e) w
                          simp only [if_true] at p1 p2
                          simp only [Sem.run_bind, p1, p2, hq, Result.andThen]
                          cases andL q with
                          | true => simpa using hr
                          | false => simp
                        · have p1 := run_part hb hi h1 x (fun _ => rfl) w
                          have p2 := run_part hb hi h2 y (fun _ => rfl) w
                          simp only [Bool.false_eq_true, if_false] at p1 p2
                          simp only [Sem.run_bind, p1, p2, hq, Result.andThen]
                          cases andL q with
                          | true => simpa using hr
                          | false => simp
theorem run_agg_equal {t : TypeId} {xs ys : List Value} {bs : List Bool} (hb : isAggB P t = some true) (h : eqN P t xs ys = some bs) (w : World) : (Op.equal t (.agg xs.toArray) (.agg ys.toArray)).run P w = .ok (andL bs) w := by
  unfold eqN at h
  cases h1 : eqT P 6 t xs ys with
  | none => rw [h1] at h; cases h
  | some l =>
    rw [h1] at h
    have := flat_eq _ _ h
    subst this
    unfold Op.equal
    rcases eqT_run 6 9994 t xs ys bs w h1 with ⟨_, h2⟩ | ⟨h2, _⟩
    · exact h2
    · rw [hb] at h2; cases h2
theorem run_agg_guard {t : TypeId} {x y : Operand} {xs ys : Array Value} (hg : P.eqGuardType P.depth t = false) (op : BinOp) (hop : op = .eql ∨ op = .neq) (w : World) : (eqGuard op t x y (.agg xs) (.agg ys)).run P w = .ok () w := by
  rcases hop with rfl | rfl <;> simp [eqGuard, hg]
theorem pr_aggeq {x y : Operand} {t u : TypeId} {xs ys : List Value} {bs : List Bool} (hx : ev F x = some (.agg xs.toArray)) (hy : ev F y = some (.agg ys.toArray)) (hb : isAggB P t = some true) (hg : P.eqGuardType P.depth t = false) (h : eqN P t xs ys = some bs) : PR P n F C (.binOp .eql t x y u) (.bool (andL bs)) :=
  pr_eql_of hx hy (run_agg_guard hg .eql (.inl rfl)) rfl (fun w _ => run_agg_equal hb h w)
theorem pr_aggne {x y : Operand} {t u : TypeId} {xs ys : List Value} {bs : List Bool} (hx : ev F x = some (.agg xs.toArray)) (hy : ev F y = some (.agg ys.toArray)) (hb : isAggB P t = some true) (hg : P.eqGuardType P.depth t = false) (h : eqN P t xs ys = some bs) : PR P n F C (.binOp .neq t x y u) (.bool (!andL bs)) :=
  pr_neq_of hx hy (run_agg_guard hg .neq (.inr rfl)) rfl (fun w _ => run_agg_equal hb h w)
/-- a field of a struct that is a value -/
theorem pr_field {x : Operand} {s : TypeId} {f : Nat} {xs a : List Value} {fs : Array Field} {fd : Field} {b : Bool} {i : TypeInfo} (hu : P.underlying s = some (.struct fs)) (hf : fs.toList[f]? = some fd) (hx : ev F x = some (.agg xs.toArray)) (hb : isAggB P fd.type = some b) (hi : P.info? fd.type = some i)
    (hs : subl xs fd.offset i.size = some a) (v : Value) (hv : b = false → a = [v]) : PR P n F C (.field s x f) (if b then .agg a.toArray else v) := fun _ _ _ _ _ ac w ha _ => by
  have hf' : fs[f]? = some fd := by simpa using hf
  have : (Instr.field s (.agg xs.toArray) f).run P w = .ok (if b then .agg a.toArray else v) w := by
    unfold Instr.field
    simp only [Sem.run_bind, run_underlying hu, Result.andThen, hf']
    have e0 : (asAgg (.agg xs.toArray) : Sem (Array Value)).run P w = .ok xs.toArray w := rfl
    simp only [Sem.run_bind, e0, Result.andThen]
    exact run_part hb hi hs v hv w
  simp only [execOp, ha.ev hx, Sem.run_bind, this, Result.andThen]
  rfl
theorem pr_field1 {x : Operand} {s : TypeId} {f : Nat} {xs : List Value} {fs : Array Field} {fd : Field} {i : TypeInfo} {v : Value} (hx : ev F x = some (.agg xs.toArray)) (hu : P.underlying s = some (.struct fs)) (hf : fs.toList[f]? = some fd) (hb : isAggB P fd.type = some false) (hi : P.info? fd.type = some i)
    (hs : subl xs fd.offset i.size = some [v]) : PR P n F C (.field s x f) v := pr_field hu hf hx hb hi hs v (fun _ => rfl)
theorem pr_fieldN {x : Operand} {s : TypeId} {f : Nat} {xs a : List Value} {fs : Array Field} {fd : Field} {i : TypeInfo} (hx : ev F x = some (.agg xs.toArray)) (hu : P.underlying s = some (.struct fs)) (hf : fs.toList[f]? = some fd) (hb : isAggB P fd.type = some true) (hi : P.info? fd.type = some i)
    (hs : subl xs fd.offset i.size = some a) : PR P n F C (.field s x f) (.agg a.toArray) := pr_field hu hf hx hb hi hs undef (fun e => by cases e)
/-! ### bits -/
theorem pr_bitop {op : BinOp} {x y : Operand} {k : IntKind} {p q r : Int} {t u : TypeId} (hop : op = .and ∨ op = .or ∨ op = .xor ∨ op = .andNot) (hx : ev F x = some (.int k p)) (hy : ev F y = some (.int k q)) (hr : bits op k p q = r) : PR P n F C (.binOp op t x y u) (.int k r) := by
  subst hr
  refine pr_bits hop hx hy fun w => ?_
  rcases hop with rfl | rfl | rfl | rfl <;> rfl
theorem pr_and {x y : Operand} {k : IntKind} {p q r : Int} {t u : TypeId} (hx : ev F x = some (.int k p)) (hy : ev F y = some (.int k q)) (hr : bits .and k p q = r) : PR P n F C (.binOp .and t x y u) (.int k r) := pr_bitop (.inl rfl) hx hy hr
theorem pr_or {x y : Operand} {k : IntKind} {p q r : Int} {t u : TypeId} (hx : ev F x = some (.int k p)) (hy : ev F y = some (.int k q)) (hr : bits .or k p q = r) : PR P n F C (.binOp .or t x y u) (.int k r) := pr_bitop (.inr (.inl rfl)) hx hy hr
theorem pr_xor {x y : Operand} {k : IntKind} {p q r : Int} {t u : TypeId} (hx : ev F x = some (.int k p)) (hy : ev F y = some (.int k q)) (hr : bits .xor k p q = r) : PR P n F C (.binOp .xor t x y u) (.int k r) := pr_bitop (.inr (.inr (.inl rfl))) hx hy hr
theorem pr_andnot {x y : Operand} {k : IntKind} {p q r : Int} {t u : TypeId} (hx : ev F x = some (.int k p)) (hy : ev F y = some (.int k q)) (hr : bits .andNot k p q = r) : PR P n F C (.binOp .andNot t x y u) (.int k r) := pr_bitop (.inr (.inr (.inr rfl))) hx hy hr
theorem pr_shlv {x y : Operand} {k k' : IntKind} {p q r : Int} {t u : TypeId} (hx : ev F x = some (.int k p)) (hy : ev F y = some (.int k' q)) (h0 : 0 ≤ q) (h1 : q ≤ k.bits) (hr : k.wrap (p * 2 ^ q.toNat) = r) : PR P n F C (.binOp .shl t x y u) (.int k r) :=
  pr_shl hx hy h0 (by rw [Nat.min_eq_left (by omega)]; exact hr)
theorem pr_shrv {x y : Operand} {k k' : IntKind} {p q r : Int} {t u : TypeId} (hx : ev F x = some (.int k p)) (hy : ev F y = some (.int k' q)) (h0 : 0 ≤ q) (h1 : q ≤ k.bits) (hr : p / 2 ^ q.toNat = r) : PR P n F C (.binOp .shr t x y u) (.int k r) :=
  pr_shr hx hy h0 (by rw [Nat.min_eq_left (by omega), Int.fdiv_eq_ediv_of_nonneg _ (Int.pow_nonneg (by decide))]; exact hr)
/-! ### functions as values -/
theorem pr_makeFunc {g : Fn} {xs ys : List Operand} {fv caps : List Value} (hx : evs F xs = some fv) (hy : evs F ys = some caps) : PR P n F C (.makeFunc g xs.toArray ys.toArray) (.func g fv.toArray caps.toArray) := fun _ _ _ _ _ a w ha _ => by
  simp [execOp, Instr.makeFunc, evs_map ha xs fv hx, evs_map ha ys caps hy]
/-- a text behind bytes that one owns -/
theorem At.append_str {ops : Array Oper} {rest : List Oper} {d : Nat} {x y : Operand} {t tx E : TypeId} {ty : TypeId} {pos : String} {aft : Array Edge} {ln : Nat} {p : Option Addr} {c : Nat} {l : List Int} {l2 : List UInt8} {Rs' : List Res}
    (hx : ev F x = some (.slice p ln c)) (hy : ev F y = some (.string (str l2))) (hp : Pick Rs (.own fb 1 E p c l) Rs') (ht : P.underlying t = some (.slice E)) (ht2 : P.underlying tx = some .string) (he : elemB P E 1 = true)
    (hln : ln = l.length) (hsm : l.length + l2.length ≤ 34359738368) (hd : Nat.blt d n = true)
    (h : ∀ p' c', At n w0 ((d, .slice p' (l ++ l2.map bI).length c') :: F) m (.own fb 1 E p' c' (l ++ l2.map bI) :: Rs') (wpList P ops Q rest)) :
    At n w0 F m Rs (wpList P ops Q (⟨some d, .call ⟨.builtin .append, #[x, y], #[t, tx]⟩, ty, pos, aft, none⟩ :: rest)) :=
  At.append (f := fb) (l2 := l2.map bI) inferInstance hp ht he hx hln hy (fun w hw => by
    have hr : ∀ w, (Builtin.firstCells 1 (l2.map bI).length (.string (str l2))).run P w = .ok ((l2.map bI).flatMap fb).toArray w := fun w => by
      have : ((l2.map bI).flatMap fb).toArray = ((str l2).extract 0 l2.length).data.map (fun b => Value.int .u8 b.toNat) := by
        rw [str_extract, List.take_length, List.drop_zero]
        simp [str, fb, bI, List.flatMap_map, List.flatMap_singleton']
        rw [← List.map_eq_flatMap]
      rw [this]
      simp [Builtin.firstCells, Sem.run]
    exact ⟨.inr ht2, fun w' => by rw [List.length_map, ← str_size l2]; rfl, hr w, hr w.drew, by rw [flatMap_length (f := fb) (sz := 1) (fun _ => rfl)], fun u hu => by
      obtain ⟨x, _, hx⟩ := List.mem_flatMap.1 hu
      simp at hx; subst hx; rfl⟩) (by simpa using hsm) hd h
theorem At.callf {ops : Array Oper} {rest : List Oper} {d : Option Nat} {g : FuncId} {x : Operand} {xs : List Operand} {ts : Array TypeId} {ty : TypeId} {pos : String} {aft : Array Edge} {fv caps vs : List Value} {A Rest : List Res} {R : Value → Mem → List Res → Prop}
    (hf : ev F x = some (.func (.func g) fv.toArray caps.toArray)) (hg : goFn P g = true) (hx : evs F xs = some vs) (hd : d.all (Nat.blt · n) = true) (hc : Ct P g (fv ++ vs ++ caps).toArray m A R) (hA : Take A Rs Rest)
    (h : ∀ v m' B, m.le m' → R v m' B → At n w0 (d.elim F (fun d => (d, v) :: F)) m' (B ++ Rest) (wpList P ops Q rest)) :
    At n w0 F m Rs (wpList P ops Q (⟨d, .call ⟨.value x, xs.toArray, ts⟩, ty, pos, aft, none⟩ :: rest)) := fun a w ha hw =>
  wpList_plain rfl fun K hK => by
    unfold Oper.wp
    have : (execOp a.eval ⟨d, .call ⟨.value x, xs.toArray, ts⟩, ty, pos, aft, none⟩).run P w = .ok (.enter g (fv ++ vs ++ caps).toArray) w := by
      have e0 : (Deferred.ofValue (.func (.func g) fv.toArray caps.toArray) (xs.toArray.map a.eval)).run P w = .ok { target := .fn (.func g) caps.toArray, args := fv.toArray ++ xs.toArray.map a.eval } w := rfl
      simp only [execOp, resolve, ha.ev hf, Sem.run_bind, e0, Result.andThen, invoke]
      have : (fv.toArray ++ xs.toArray.map a.eval ++ caps.toArray : Array Value) = (fv ++ vs ++ caps).toArray := by simp [evs_map ha xs vs hx]
      rw [this, run_callFunc hg]
    rw [this]
    refine (hc w0 Rest w (hw.ent hA.eqv.ent)).mono ?_
    rintro e w' ⟨v, m', B, rfl, hm, hR, hw'⟩
    refine hK _ _ (h v m' B hm hR _ _ ?_ hw')
    cases d with
    | none => exact ha
    | some d => exact ha.put (by simpa using hd)
end
end Go.J
namespace Go.J
open Go
section
variable {P : Program} {n : Nat} {w0 : World} {F : Fr} {m : Mem} {Rs : List Res} {Q : Exit → Act → World → Prop} {K : Act → World → Prop} {C : World → Prop}
theorem At.scope {c : Code} (h : At n w0 F m Rs (c.wp P (Exit.noGoto Q))) : At n w0 F m Rs ((Code.scope c).wp P Q) := fun a w ha hw => wp_scope_straight (h a w ha hw)
theorem At.label {l : Nat} (h : At n w0 F m Rs (Q .normal)) : At n w0 F m Rs ((Code.label l).wp P Q) := fun a w ha hw => wp_label (h a w ha hw)
theorem At.nog_n (h : At n w0 F m Rs (Q .normal)) : At n w0 F m Rs (Exit.noGoto Q .normal) := h
theorem At.nog_r (h : At n w0 F m Rs (Q .ret)) : At n w0 F m Rs (Exit.noGoto Q .ret) := h
theorem At.nog_e {id : Nat} (h : At n w0 F m Rs (Q (.exit id))) : At n w0 F m Rs (Exit.noGoto Q (.exit id)) := h
theorem At.retR0 {fn : Func} {R : Value → Mem → List Res → Prop} {m0 : Mem} {Rest B : List Res} (hr : fn.results = #[]) (hm : m0.le m) (hB : Keep B Rs Rest) (hR : R (.tuple #[]) m B) :
    At n w0 F m Rs (bodyPost P fn (fun e w' => ∃ v m' B, e = .returned v ∧ m0.le m' ∧ R v m' B ∧ HW w0 m' (B ++ Rest) w') .ret) := fun a w ha hw =>
  ⟨ha.dfr, _, by rw [results_none hr], _, m, B, rfl, hm, hR, hw.ent hB.ent⟩
theorem pr_strindexn {x y : Operand} {t : TypeId} {l : List UInt8} {k : IntKind} {i : Nat} (ht : P.underlying t = some .string) (hx : ev F x = some (.string (str l))) (hy : ev F y = some (.int k (i : Int))) (h1 : i < l.length) :
    PR P n F C (.index t x y) (.int .u8 (bI l[i]!)) := pr_strindex ht hx hy (by omega) (by omega)
theorem pr_str_ln {x y : Operand} {t : TypeId} {l : List UInt8} {k : IntKind} {i : Nat} (ht : P.underlying t = some .string) (hx : ev F x = some (.string (str l))) (hy : ev F y = some (.int k (i : Int))) (h1 : i ≤ l.length) :
    PR P n F C (.slice t x (some y) none none) (.string (str (l.drop i))) := pr_str_l ht hx hy (by omega) (by omega)
theorem pr_str_hn {x z : Operand} {t : TypeId} {l : List UInt8} {k : IntKind} {i : Nat} (ht : P.underlying t = some .string) (hx : ev F x = some (.string (str l))) (hz : ev F z = some (.int k (i : Int))) (h1 : i ≤ l.length) :
    PR P n F C (.slice t x none (some z) none) (.string (str (l.take i))) := pr_str_h ht hx hz (by omega) (by omega)
theorem pr_str_lhn {x y z : Operand} {t : TypeId} {l : List UInt8} {k k' : IntKind} {i j : Nat} (ht : P.underlying t = some .string) (hx : ev F x = some (.string (str l))) (hy : ev F y = some (.int k (i : Int))) (hz : ev F z = some (.int k' (j : Int))) (h1 : i ≤ j) (h2 : j ≤ l.length) :
    PR P n F C (.slice t x (some y) (some z) none) (.string (str ((l.take j).drop i))) := pr_str_lh ht hx hy hz (by omega) (by omega) (by omega)
/-- a region that draws, where some of what one owns is for the loud operations alone -/
theorem At.mixedX {id : Nat} {l0 l : List Oper} (X : List Res) (N : Nat) (p : Plan) {Base : List Res} (hX : Take X Rs Base) (e : flat l0 = some l) (hN : Nat.beq l.length N = true) (hm : P.follows .mixedOrders = true) (hB : mixB l p = true)
    (h : AtM P n w0 F m Base X (Q .normal) l N (Array.replicate l.length false) p) : At n w0 F m Rs ((Code.region id l0.toArray true).wp P Q) := fun a w ha hw => by
  have := flat_eq l0 l e; subst this
  simp only [mixB, Bool.and_eq_true] at hB
  have hN' := Nat.eq_of_beq_eq_true hN
  subst hN'
  have hG := h hB.1 hB.2 (Closed.empty _ _) a ha
  refine Code.wp_mono (Q := Q0 (Q .normal)) (fun e a' w' q => by cases e <;> first | exact q | exact q.elim) (wp_region_any hm ?_)
  exact GM.any (P := P) l.length m Base X _ a { w with drawn := w.drawn + 1 } ((hw.ent hX.eqv.ent).drawn _) hG
/-- what came to be in memory is not told -/
theorem Ct.forget {f : FuncId} {args : Array Value} {A : List Res} {R R' : Value → Mem → List Res → Prop} (h : Ct P f args m A R) (hr : ∀ v m' B, m.le m' → R v m' B → R' v m B) : Ct P f args m A R' :=
  fun w0 Rest w hw => (h w0 Rest w hw).mono fun _ _ ⟨v, m', B, he, hm, hR, hw'⟩ => ⟨v, m, B, he, Mem.le_refl _, hr v m' B hm hR, hw'.weak hm⟩
theorem Pu.of_le {f : FuncId} {args : Array Value} {V : Value} (h : ∀ m, Ct P f args m [] (fun v m' B => v = V ∧ m.le m' ∧ B = [])) : Pu P f args V := Pu.intro fun m => Ct.forget (h m) fun _ _ _ _ ⟨h1, _, h3⟩ => ⟨h1, rfl, h3⟩
theorem flatMap_replicate {α : Type} (f : α → List Value) (z : α) : ∀ k : Nat, (List.replicate k z).flatMap f = copies k (f z)
  | 0 => rfl
  | k + 1 => by rw [List.replicate_succ, List.flatMap_cons, flatMap_replicate f z k]; rfl
/-- a slice that is made with all of its room taken -/
theorem At.makeN {α : Type} [Inhabited α] {f : α → List Value} {sz : Nat} {ops : Array Oper} {rest : List Oper} {d : Nat} {x y : Operand} {t E : TypeId} {ty : TypeId} {pos : String} {aft : Array Edge} {k1 k2 : IntKind} {cp : Nat} {q q' : Int}
    (z : α) (hf : Fl f sz) (ht : P.underlying t = some (.slice E)) (he : elemB P E sz = true) (hx : ev F x = some (.int k1 q)) (hy : ev F y = some (.int k2 q')) (hq : q = (cp : Int)) (hq' : q' = (cp : Int)) (hz : zeroL P E = some (f z)) (hsm : cp ≤ 34359738368) (hd : Nat.blt d n = true)
    (h : ∀ b, At n w0 ((d, .slice (some ⟨b, 0, none⟩) cp cp) :: F) m (.own f sz E (some ⟨b, 0, none⟩) cp (List.replicate cp z) :: Rs) (wpList P ops Q rest)) :
    At n w0 F m Rs (wpList P ops Q (⟨some d, .makeSlice t x y, ty, pos, aft, none⟩ :: rest)) := fun a w ha hw =>
  wpList_plain rfl fun K hK => by
    subst hq hq'
    obtain ⟨i, zv, hi, hzv, hsz, hbt, hzs⟩ := elemB_spec he
    obtain ⟨i', z', hi', hz', hzc⟩ := zeroL_spec hz
    rw [hi] at hi'; cases hi'
    rw [hzv] at hz'; cases hz'
    have hby : i.bytes * cp ≤ 281474976710656 := Nat.le_trans (Nat.mul_le_mul hbt hsm) (by omega)
    have h63 : cp ≤ maxLen := by simp only [maxLen]; omega
    obtain ⟨w', hr, h1, h2⟩ := run_make_full (P := P) w w.heap.size t E i zv sz ht hi hzv hsz k1 k2 cp hby h63 (Nat.le_refl _)
    unfold Oper.wp
    have hrun : (execOp a.eval ⟨some d, .makeSlice t x y, ty, pos, aft, none⟩).run P w = .ok (.value (.slice (some ⟨w.heap.size, 0, none⟩) cp cp)) w' := by
      simp [execOp, ha.ev hx, ha.ev hy, hr]
    rw [hrun]
    have hh := h w.heap.size
    refine hK _ _ (hh _ _ (ha.put hd) (hw.add h2.os h2.tape h2.output h2.size (fun k hk => h2.block k hk (by simp)) ⟨fun k => k = w.heap.size, ?_, fun k hk => by omega⟩))
    obtain ⟨g1, g2⟩ := h1
    rcases g2 with g2 | ⟨g, cap, cur, hv, _, h4, h5, h6, h7, h8⟩
    · cases g2.1
    · injection hv with e1 e2 e3
      injection e1 with e1
      injection e1 with e1 _ _
      subst e1 e3
      have hsize : zv.cells.size = sz := hzs
      have hlz : (f z).length = sz := hf.len z
      have hmade : (madeCells zv.cells (cp * sz)).toList = copies cp (f z) := by
        have := copies_arr zv.cells (f z) hzc cp
        rw [hlz] at this
        unfold madeCells
        rw [this]
      refine .inr ⟨_, 0, cur, rfl, h4, by rw [List.length_replicate]; exact Nat.le_refl _, h6, by omega, fun j hj => ?_, fun _ => Iff.rfl⟩
      rw [List.length_replicate] at hj
      rw [Nat.zero_add, flatMap_replicate, ← hmade, ← h8, List.getElem?_take, if_pos hj, Array.getElem?_toList]
end
end Go.J
namespace Go.J
open Go
section
variable {P : Program} {n : Nat} {w0 : World} {F : Fr} {m : Mem} {Rs : List Res} {Q : Exit → Act → World → Prop} {K : Act → World → Prop} {C : World → Prop}
/-! ### arrays -/
theorem run_indexArr {t e : TypeId} {sz len : Nat} (ht : P.underlying t = some (.array len e)) (hs : sizeB P e = some sz) (b o k : Nat) (ki : IntKind) (hk : k < len) (w : World) :
    (Instr.indexAt t (.pointer (some ⟨b, o, none⟩)) (.int ki (k : Int))).run P w = .ok (.pointer (some ⟨b, o + k * sz, none⟩)) w := by
  have hr : ∀ w, (underlying t).run P w = .ok (.array len e) w := run_underlying ht
  have h1 : (0 : Int) ≤ (k : Int) ∧ (k : Int) < (len : Int) := ⟨by omega, by omega⟩
  unfold Instr.indexAt
  simp only [asIntOf, pure, Sem.run_bind, Sem.run, Result.andThen, hr, Instr.sureAddr, h1, and_self, if_true, run_sizeOf hs, Int.toNat_natCast, Addr.add_eq]
theorem pr_indexArr {x y : Operand} {t e : TypeId} {len b o k sz : Nat} {ki : IntKind} (hx : ev F x = some (.pointer (some ⟨b, o, none⟩))) (hy : ev F y = some (.int ki (k : Int))) (ht : P.underlying t = some (.array len e)) (hs : sizeB P e = some sz) (hk : k < len) :
    PR P n F C (.indexAddr t x y) (.pointer (some ⟨b, o + k * sz, none⟩)) := fun _ _ _ _ _ a w ha _ => by
  simp only [execOp, ha.ev hx, ha.ev hy, Sem.run_bind, run_indexArr ht hs b o k ki hk]
  rfl
/-- the elements are of one cell, the array is the whole block -/
theorem pr_indexArr1 {x y : Operand} {t e : TypeId} {len b k : Nat} {ki : IntKind} (hx : ev F x = some (.pointer (some ⟨b, 0, none⟩))) (hy : ev F y = some (.int ki (k : Int))) (ht : P.underlying t = some (.array len e)) (hs : sizeB P e = some 1) (hk : k < len) :
    PR P n F C (.indexAddr t x y) (.pointer (some ⟨b, k, none⟩)) := by
  have := pr_indexArr (n := n) (C := C) hx hy ht hs hk
  rwa [Nat.zero_add, Nat.mul_one] at this
theorem pr_indexArr1i {x y : Operand} {t e : TypeId} {len b : Nat} {q : Int} {ki : IntKind} (hx : ev F x = some (.pointer (some ⟨b, 0, none⟩))) (hy : ev F y = some (.int ki q)) (ht : P.underlying t = some (.array len e)) (hs : sizeB P e = some 1) (h0 : 0 ≤ q) (hk : q < len) :
    PR P n F C (.indexAddr t x y) (.pointer (some ⟨b, q.toNat, none⟩)) := pr_indexArr1 hx (k := q.toNat) (by rw [hy, Int.toNat_of_nonneg h0]) ht hs (by omega)
theorem pr_load_arr {α : Type} [Inhabited α] {g : α → Value} {l : List α} {x : Operand} {t : TypeId} {b k : Nat} {E : TypeId} {Rs' : List Res} (hx : ev F x = some (.pointer (some ⟨b, k, none⟩))) (hp : Pick Rs (.blk b E (l.map g)) Rs') (ht : isAggB P t = some false) (hk : k < l.length) :
    PR P n F (HW w0 m Rs) (.load t x) (g l[k]!) := pr_load1 ht hx fun w hw => by
  rw [World.cell_of (hw.blk hp)]
  simp [hk]
theorem putl_set : ∀ (cs : List Value) (k : Nat) (v : Value), k < cs.length → putl cs k [v] = some (cs.set k v)
  | [], _, _, h => by simp at h
  | c :: cs, 0, v, _ => by
    have : ∀ l : List Value, putl l 0 [] = some l := fun l => by cases l <;> simp [putl]
    simp [putl, this]
  | c :: cs, k + 1, v, h => by
    have := putl_set cs k v (by simpa using h)
    simp [putl, this]
theorem At.storeArr {α : Type} {g : α → Value} {l : List α} {ops : Array Oper} {rest : List Oper} {t : TypeId} {x y : Operand} {ty : TypeId} {pos : String} {aft : Array Edge} {b k : Nat} {v : Value} {E : TypeId} {Rs' : List Res}
    (x' : α) (hx : ev F x = some (.pointer (some ⟨b, k, none⟩))) (hy : ev F y = some v) (hv : g x' = v) (hc : cellsB v = some [v]) (hs : sizeB P t = some 1) (h1 : oneCell v = true)
    (hp : Repl Rs (.blk b E (l.map g)) (.blk b E ((l.set k x').map g)) Rs') (hk : k < l.length)
    (h : At n w0 F m Rs' (wpList P ops Q rest)) : At n w0 F m Rs (wpList P ops Q (⟨none, .store t x y, ty, pos, aft, none⟩ :: rest)) :=
  At.store (vs := [v]) hx hy hc hs rfl (by simp [h1]) ⟨_, rfl, by rw [putl_set _ _ _ (by simpa using hk), List.map_set, hv]⟩ hp h
/-! ### values of which no more than the length is known -/
theorem cellsOf_agg (L : List Value) : (Value.agg L.toArray).cells = L.toArray := rfl
theorem At.boxA {ops : Array Oper} {rest : List Oper} {d : Nat} {t : TypeId} {x : Operand} {ty : TypeId} {pos : String} {aft : Array Edge} {L : List Value} (hx : ev F x = some (.agg L.toArray)) (hd : Nat.blt d n = true)
    (h : ∀ b, At n w0 ((d, .pointer (some ⟨b, 0, none⟩)) :: F) m (.blk b t L :: Rs) (wpList P ops Q rest)) : At n w0 F m Rs (wpList P ops Q (⟨some d, .box t x, ty, pos, aft, none⟩ :: rest)) :=
  At.box (v := .agg L.toArray) hx (by show flat L = some L; exact flat_self L) hd h
theorem pr_loadA {x : Operand} {t : TypeId} {b k : Nat} {L : List Value} {E : TypeId} {Rs' : List Res} (hx : ev F x = some (.pointer (some ⟨b, 0, none⟩))) (hp : Pick Rs (.blk b E L) Rs') (ht : isAggB P t = some true) (hs : sizeB P t = some k) (hk : L.length = k) :
    PR P n F (HW w0 m Rs) (.load t x) (.agg L.toArray) := pr_loadN ht hx (by rw [hk]; exact hs) fun w hw j _ => by
  rw [World.cell_of (hw.blk hp)]
  simp
theorem putl_all : ∀ (cs vs : List Value), cs.length = vs.length → putl cs 0 vs = some vs
  | [], [], _ => rfl
  | c :: cs, v :: vs, h => by simp [putl, putl_all cs vs (by simpa using h)]
  | [], _ :: _, h => by simp at h
  | _ :: _, [], h => by simp at h
theorem At.storeA {ops : Array Oper} {rest : List Oper} {t : TypeId} {x y : Operand} {ty : TypeId} {pos : String} {aft : Array Edge} {b k : Nat} {L cs : List Value} {E : TypeId} {Rs' : List Res}
    (hx : ev F x = some (.pointer (some ⟨b, 0, none⟩))) (hy : ev F y = some (.agg L.toArray)) (hs : sizeB P t = some k) (h1 : L.all oneCell = true) (hp : Repl Rs (.blk b E cs) (.blk b E L) Rs') (hk : L.length = k) (hk2 : cs.length = k)
    (h : At n w0 F m Rs' (wpList P ops Q rest)) : At n w0 F m Rs (wpList P ops Q (⟨none, .store t x y, ty, pos, aft, none⟩ :: rest)) :=
  At.store (vs := L) hx hy (by show flat L = some L; exact flat_self L) hs hk h1 ⟨_, rfl, putl_all _ _ (by rw [hk2, hk])⟩ hp h
theorem rv_cellA {x b k : Nat} {t E : TypeId} {L : List Value} {Rs' : List Res} (hx : look x F = some (.pointer (some ⟨b, 0, none⟩))) (hp : Pick Rs (.blk b E L) Rs') (ht : isAggB P t = some true) (hs : sizeB P t = some k) (hk : L.length = k) : RV P n F (HW w0 m Rs) (.cell x t) (.agg L.toArray) := fun a w ha hC => by
  show ((do loadVar t (← asAddr (a.tmps.getD x undef))) : Sem Value).run P w = _
  rw [ha.val x _ hx]
  have e0 : (asAddr (.pointer (some ⟨b, 0, none⟩)) : Sem Addr).run P w = .ok ⟨b, 0, none⟩ w := rfl
  simp only [Sem.run_bind, e0, Result.andThen]
  exact run_loadVarN ht (by rw [hk]; exact hs) (fun j _ => by
    rw [World.cell_of (hC.blk hp)]
    simp)
/-! ### the model's own functions -/
theorem pr_extern {f : FuncId} {fn : Func} {e : Array Value → Sem Value} {xs : List Operand} {ts : Array TypeId} {vs : List Value} {v : Value} (hf : P.funcs[f]? = some fn) (hname : (fn.name == "runtime.NumGoroutine") = false) (hb : fn.body.isNone = true) (hn : Extern.findNext fn = none) (he : Extern.find fn = some e)
    (hx : evs F xs = some vs) (hv : ∀ w, (e vs.toArray).run P w = .ok v w) : PR P n F C (.call ⟨.value (.func f), xs.toArray, ts⟩) v := fun _ _ _ _ _ a w ha _ => by
  rw [execOp_call_go]
  have : (#[] ++ xs.toArray.map a.eval ++ #[] : Array Value) = vs.toArray := by simp [evs_map ha xs vs hx]
  rw [this, run_callFunc_extern hf hname hb hn he, hv w]
  rfl
/-! ### two structs are compared -/
def eqG (P : Program) (eqT : TypeId → List Value → List Value → Option (List Bool)) (xs ys : List Value) : List Field → Option (List Bool)
  | [] => some []
  | f :: fs => match f.name == "_" with
    | true => none
    | false => match P.info? f.type with
      | some i => match subl xs f.offset i.size with
        | some a => match subl ys f.offset i.size with
          | some b => match eqT f.type a b with
            | some r => match eqG P eqT xs ys fs with
              | some q => some (r ++ q)
              | none => none
            | none => none
          | none => none
        | none => none
      | none => none
def eqS (P : Program) : Nat → TypeId → List Value → List Value → Option (List Bool)
  | 0, _, _, _ => none
  | d + 1, t, xs, ys => match P.underlying t with
    | some (.struct fs) => eqG P (eqS P d) xs ys fs.toList
    | some .bool => match xs, ys with
      | [.bool a], [.bool b] => some [a == b]
      | _, _ => none
    | some .string => match xs, ys with
      | [.string a], [.string b] => some [decide (a = b)]
      | _, _ => none
    | some (.int _) => match xs, ys with
      | [.int k a], [.int k' b] => match decide (k = k') with
        | true => some [decide (a = b)]
        | false => none
      | _, _ => none
    | _ => none
def eqM (P : Program) (t : TypeId) (xs ys : List Value) : Option (List Bool) := match eqS P 6 t xs ys with
  | some l => flat l
  | none => none
/-- no struct of it is laid out by another's hand -/
def freeF (rec : TypeId → Bool) : List Field → Bool
  | [] => true
  | f :: fs => rec f.type && freeF rec fs
def freeB (P : Program) : Nat → TypeId → Bool
  | 0, _ => false
  | d + 1, t => match P.underlying t with
    | some (.struct fs) => !P.stoodInHeld t && freeF (freeB P d) fs.toList
    | _ => true
theorem eqS_run : ∀ (d e : Nat) (t : TypeId) (xs ys : List Value) (r : List Bool) (w : World), freeB P d t = true → eqS P d t xs ys = some r →
    (isAggB P t = some true ∧ (Op.equalIn (d + e) t (.agg xs.toArray) (.agg ys.toArray)).run P w = .ok (andL r) w) ∨
    (isAggB P t = some false ∧ ∃ x y, xs = [x] ∧ ys = [y] ∧ (Op.equalIn (d + e) t x y).run P w = .ok (andL r) w)
  | 0, _, _, _, _, _, _, h, _ => by cases h
  | d + 1, e, t, xs, ys, r, w, hfree, h => by
    have ih := eqS_run d e
    rw [show d + 1 + e = (d + e) + 1 by omega]
    unfold eqS at h
    unfold freeB at hfree
    cases hu : P.underlying t with
    | none => rw [hu] at h; cases h
    | some u =>
      rw [hu] at h hfree
      cases u <;> simp only at h hfree <;> try (cases h; done)
      case bool =>
        split at h
        · rename_i a b
          cases h
          refine .inr ⟨by simp [isAggB, hu], _, _, rfl, rfl, ?_⟩
          simp [Op.equalIn, run_underlying hu, andL]
        · cases h
      case string =>
        split at h
        · rename_i a b
          cases h
          refine .inr ⟨by simp [isAggB, hu], _, _, rfl, rfl, ?_⟩
          have : (a == b) = decide (a = b) := by rw [beq_toListBytes, str_eq]
          simp [Op.equalIn, run_underlying hu, andL, this]
        · cases h
      case int kk =>
        split at h
        · rename_i k a k' b
          by_cases hk : k = k'
          · subst hk
            simp only [decide_true] at h
            cases h
            refine .inr ⟨by simp [isAggB, hu], _, _, rfl, rfl, ?_⟩
            have : (a == b) = decide (a = b) := rfl
            simp [Op.equalIn, run_underlying hu, andL, this]
          · simp only [decide_eq_false hk] at h
            cases h
        · cases h
      case struct fs =>
        rw [Bool.and_eq_true] at hfree
        obtain ⟨hp0, hfr⟩ := hfree
        cases hp : P.stoodInHeld t with
        | true => rw [hp] at hp0; cases hp0
        | false =>
          refine .inl ⟨by simp [isAggB, hu], ?_⟩
          have hfo : P.fieldsOf t = fs := by simp [Program.fieldsOf, hu]
          rw [run_equalIn_struct w (d + e) t _ _ (by rw [hfo]; exact hu) hp, hfo]
          generalize fs.toList = l at h hfr
          clear hfo hu
          induction l generalizing r with
          | nil => cases h; rfl
          | cons f l ihl =>
            unfold eqG at h
            unfold freeF at hfr
            rw [Bool.and_eq_true] at hfr
            cases hn : f.name == "_" with
            | true => rw [hn] at h; cases h
            | false =>
              rw [hn] at h
              simp only at h
              have hn' : f.name ≠ "_" := by simpa using hn
              cases hi : P.info? f.type with
              | none => rw [hi] at h; cases h
              | some i =>
                rw [hi] at h
                simp only at h
                cases h1 : subl xs f.offset i.size with
                | none => rw [h1] at h; cases h
                | some a =>
                  cases h2 : subl ys f.offset i.size with
                  | none => rw [h1, h2] at h; cases h
                  | some b =>
                    rw [h1, h2] at h
                    simp only at h
                    cases h3 : eqS P d f.type a b with
                    | none => rw [h3] at h; cases h
                    | some q =>
                      rw [h3] at h
                      simp only at h
                      cases h4 : eqG P (eqS P d) xs ys l with
                      | none => rw [h4] at h; cases h
                      | some q2 =>
                        rw [h4] at h
                        cases h
                        have hr := ihl q2 h4 hfr.2
                        unfold Op.eqFields
                        rw [if_pos hn', andL_append]
                        rcases ih f.type a b q w hfr.1 h3 with ⟨hb, hq⟩ | ⟨hb, x, y, rfl, rfl, hq⟩
                        · have p1 := run_part hb hi h1 undef (fun e => by cases e) w
                          have p2 := run_part hb hi h2 undef (fun e => by cases e) w
                          simp only [if_true] at p1 p2
                          simp only [Sem.run_bind, p1, p2, hq, Result.andThen]
                          cases andL q with
                          | true => simpa using hr
                          | false => simp
                        · have p1 := run_part hb hi h1 x (fun _ => rfl) w
                          have p2 := run_part hb hi h2 y (fun _ => rfl) w
                          simp only [Bool.false_eq_true, if_false] at p1 p2
                          simp only [Sem.run_bind, p1, p2, hq, Result.andThen]
                          cases andL q with
                          | true => simpa using hr
                          | false => simp
theorem run_agg_equal2 {t : TypeId} {xs ys : List Value} {bs : List Bool} (hb : isAggB P t = some true) (hn : freeB P 6 t = true) (h : eqM P t xs ys = some bs) (w : World) : (Op.equal t (.agg xs.toArray) (.agg ys.toArray)).run P w = .ok (andL bs) w := by
  unfold eqM at h
  cases h1 : eqS P 6 t xs ys with
  | none => rw [h1] at h; cases h
  | some l =>
    rw [h1] at h
    have := flat_eq _ _ h
    subst this
    unfold Op.equal
    rcases eqS_run 6 9994 t xs ys bs w hn h1 with ⟨_, h2⟩ | ⟨h2, _⟩
    · exact h2
    · rw [hb] at h2; cases h2
theorem pr_aggeq2 {x y : Operand} {t u : TypeId} {xs ys : List Value} {bs : List Bool} (hx : ev F x = some (.agg xs.toArray)) (hy : ev F y = some (.agg ys.toArray)) (hb : isAggB P t = some true) (hg : P.eqGuardType P.depth t = false) (hn : freeB P 6 t = true) (h : eqM P t xs ys = some bs) : PR P n F C (.binOp .eql t x y u) (.bool (andL bs)) :=
  pr_eql_of hx hy (run_agg_guard hg .eql (.inl rfl)) rfl (fun w _ => run_agg_equal2 hb hn h w)
theorem pr_aggne2 {x y : Operand} {t u : TypeId} {xs ys : List Value} {bs : List Bool} (hx : ev F x = some (.agg xs.toArray)) (hy : ev F y = some (.agg ys.toArray)) (hb : isAggB P t = some true) (hg : P.eqGuardType P.depth t = false) (hn : freeB P 6 t = true) (h : eqM P t xs ys = some bs) : PR P n F C (.binOp .neq t x y u) (.bool (!andL bs)) :=
  pr_neq_of hx hy (run_agg_guard hg .neq (.inr rfl)) rfl (fun w _ => run_agg_equal2 hb hn h w)
end
end Go.J
namespace Go.J
open Go
section
variable {P : Program} {n : Nat} {w0 : World} {F : Fr} {m : Mem} {Rs : List Res} {Q : Exit → Act → World → Prop} {α : Type} [Inhabited α] {f : α → List Value} {sz : Nat}
theorem At.appendF {ops : Array Oper} {rest : List Oper} {d : Nat} {x y : Operand} {t tx e2 : TypeId} {ty : TypeId} {pos : String} {aft : Array Edge} {E : TypeId} {p p2 : Option Addr} {c ln ln2 c2 : Nat} {l l2 : List α}
    (hx : ev F x = some (.slice p ln c)) (hy : ev F y = some (.slice p2 ln2 c2)) (h1 : Rdb (HW w0 m Rs) f sz p c l) (hln : ln = l.length) (h2 : Rdb (HW w0 m Rs) f sz p2 c2 l2) (hl2 : ln2 = l2.length)
    (ht : P.underlying t = some (.slice E)) (ht2 : P.underlying tx = some (.slice e2)) (he : elemB P E sz = true) (hc : c < l.length + l2.length)
    (hsm : l.length + l2.length ≤ 34359738368) (hd : Nat.blt d n = true)
    (h : ∀ p' c', At n w0 ((d, .slice p' (l ++ l2).length c') :: F) m (.own f sz E p' c' (l ++ l2) :: Rs) (wpList P ops Q rest)) :
    At n w0 F m Rs (wpList P ops Q (⟨some d, .call ⟨.builtin .append, #[x, y], #[t, tx]⟩, ty, pos, aft, none⟩ :: rest)) := fun a w ha hw =>
  wpList_plain rfl fun K hK => by
    subst hln hl2
    have hf := h1.fl
    obtain ⟨i, z, hi, hz, hsz, hbt, hzs⟩ := elemB_spec he
    have hby : (l.length + l2.length) * i.bytes ≤ 140737488355328 := Nat.le_trans (Nat.mul_le_mul hsm hbt) (by omega)
    have h63 : l.length + l2.length ≤ maxLen := by simp only [maxLen]; omega
    have hsmall : ((l.length + l2.length : Nat) : Int) ≤ 9223372036854775807 := by omega
    have s1 := rdb_src (P := P) h1 hw ht
    have s2 := rdb_src (P := P) h2 hw ht2
    have hl1 := flatMap_length hf.len l
    have hl2 := flatMap_length hf.len l2
    have hll : (l ++ l2).length = l.length + l2.length := by simp
    have hold : (Builtin.firstCells i.size l.length (.slice p l.length c)).run P w.drew = .ok (l.flatMap f).toArray w.drew := by rw [hsz]; exact s1.cellsD
    have hr := run_append_grow_src (P := P) (ty := ty) (w := w) t tx E i z ht hi hz p l.length c (l.flatMap f) hold (.slice p2 l2.length c2) l2.length (l2.flatMap f) (by rw [hsz]; exact s2) hc hsmall (growslice_fits hc hby)
    have hge := grownCap_ge w (l.length + l2.length) c E
    have hcm : grownCap w (l.length + l2.length) c E ≤ maxLen := grownCap_le_maxLen w (l.length + l2.length) c E h63
    rw [← hll] at hr hge hcm
    unfold Oper.wp
    have hrun : ∀ v w', (Builtin.append_ #[t, tx] ty #[.slice p l.length c, .slice p2 l2.length c2]).run P w = .ok v w' → (execOp a.eval ⟨some d, .call ⟨.builtin .append, #[x, y], #[t, tx]⟩, ty, pos, aft, none⟩).run P w = .ok (.value v) w' := fun v w' hr => by
      rw [BigFrame.execOp_builtin]
      simp [BigFrame.builtin_append, ha.ev hx, ha.ev hy, hr]
    rw [hrun _ _ hr]
    refine hK _ _ (h _ _ _ _ (ha.put hd) (hw.add rfl rfl rfl (by simp) (fun k hk => heap_alloc_old w.drew _ hk) ⟨fun k => k = w.heap.size, .inr ⟨w.heap.size, 0, _, rfl, heap_alloc_new w.drew _, hge, hcm, ?_, fun j hj => ?_, fun _ => Iff.rfl⟩, fun k hk => by omega⟩))
    · simp only [Array.size_append, List.size_toArray, size_zeroCells, hzs, List.length_append, hl1, hl2, ← Nat.add_mul]
      rw [List.length_append] at hge
      rw [Nat.add_sub_cancel' hge, Nat.zero_add]
      exact Nat.le_refl _
    · rw [Nat.zero_add, List.flatMap_append, Array.getElem?_append_left (by
        rw [hll, Nat.add_mul] at hj
        simp only [List.size_toArray, List.length_append, hl1, hl2]; omega)]
      simp
theorem addr_add0 (a : Addr) : a.add 0 = a := by cases a; simp [Addr.add]
theorem subp0 (p : Option Addr) (c sz : Nat) : subp p c 0 sz = p := by
  unfold subp
  split
  · rfl
  · rw [Nat.zero_mul]; cases p <;> simp [addr_add0]
theorem Rdb.cut {C : World → Prop} {p : Option Addr} {c : Nat} {l : List α} (h : Rdb C f sz p c l) (hi : Nat) (h1 : hi ≤ l.length) : Rdb C f sz p hi (l.take hi) := by
  have := Rdb.subh h hi h1
  rw [subp0] at this
  exact ⟨this.fl, this.some, fun w hw => by rw [List.length_take]; omega, this.cell⟩
/-- a part from the front, with no room behind it -/
theorem run_slice3 {t e : TypeId} (ht : P.underlying t = some (.slice e)) (hs : sizeB P e = some sz) (p : Option Addr) (l c hi : Nat) (h2 : hi ≤ c) (k k' : IntKind) (w : World) :
    (Instr.sliceAt t (.slice p l c) none (some (.int k (hi : Int))) (some (.int k' (hi : Int)))).run P w = .ok (.slice p hi hi) w := by
  have hr : ∀ w, (underlying t).run P w = .ok (.slice e) w := fun w => by simp only [underlying, program, bind, Sem.bind, Sem.run, ht]; rfl
  have a2 : (0 : Int) ≤ (hi : Int) ∧ (hi : Int) ≤ (c : Int) := ⟨by omega, by omega⟩
  unfold Instr.sliceAt
  simp only [Sem.run_bind, hr, Result.andThen]
  unfold Instr.slice
  simp only [Sem.run_bind, hr, Result.andThen]
  have hb : (Instr.sliceBounds true l c none (some (.int k (hi : Int))) (some (.int k' (hi : Int)))).run P w = .ok (0, hi, hi) w := by
    unfold Instr.sliceBounds Instr.sliceBound
    simp [asIntOf, pure, Sem.run, bind, Sem.bind, h2]
  rw [hb]
  simp only [run_sizeOf hs, pure, Sem.run]
  have := subp0 p hi sz
  unfold subp at this
  simp only [Nat.sub_zero, this]
theorem pr_slice3 {C : World → Prop} {x y z : Operand} {t e : TypeId} {p : Option Addr} {l c hi : Nat} {k k' : IntKind} (hx : ev F x = some (.slice p l c)) (hz : ev F z = some (.int k (hi : Int))) (hy : ev F y = some (.int k' (hi : Int))) (ht : P.underlying t = some (.slice e)) (hs : sizeB P e = some sz) (hle : LeSz C sz c l) (h2 : hi ≤ l) :
    PR P n F C (.slice t x none (some z) (some y)) (.slice p hi hi) := fun _ _ _ _ _ a w ha hC => by
  simp only [execOp, ha.ev hx, Sem.run_bind, Option.map_none, Option.map_some, ha.ev hz, ha.ev hy]
  rw [run_slice3 ht hs p l c hi (Nat.le_trans h2 (hle w hC))]
  rfl
end
end Go.J
namespace Go.J
open Go
section
variable {P : Program} {m : Mem} {Rs : List Res} {α : Type} [Inhabited α] {f : α → List Value} {sz : Nat}
theorem HW.freeze {w0 w : World} {E : TypeId} {p : Option Addr} {c : Nat} {l : List α} (hf : Fl f sz) (hw : HW w0 m (.own f sz E p c l :: Rs) w) : ∃ m', m.le m' ∧ Sl m' f sz p c l ∧ HW w0 m' Rs w := by
  have k := At.own_freeze (n := 0) (w0 := w0) (F := []) (m := m) (Rs := .own f sz E p c l :: Rs) (K := fun _ w => ∃ m', m.le m' ∧ Sl m' f sz p c l ∧ HW w0 m' Rs w) hf pk0
    (fun m' hm' sl => by
      unfold At
      intro a w1 _ hw1
      exact ⟨m', hm', sl, hw1⟩)
  unfold At at k
  exact k ⟨#[], []⟩ w ⟨rfl, rfl, fun _ _ h => by cases h⟩ hw
theorem Ct.freezeG {g : FuncId} {args : Array Value} {E : TypeId} {p : Option Addr} {c : Nat} {l : List α} {R : Value → Mem → List Res → Prop} (hf : Fl f sz) (h : ∀ m', m.le m' → Sl m' f sz p c l → Ct P g args m' Rs R) :
    Ct P g args m (.own f sz E p c l :: Rs) R := by
  unfold Ct at h ⊢
  intro w0 Rest w hw
  obtain ⟨m', hm', sl, hw'⟩ := HW.freeze hf hw
  exact (h m' hm' sl w0 Rest w hw').mono fun _ _ ⟨v, m2, B, h1, h2, h3, h4⟩ => ⟨v, m2, B, h1, Mem.le_trans hm' h2, h3, h4⟩
theorem Ct.slice {g : FuncId} {args : Array Value} {A B0 : List Res} {E : TypeId} {l : List α} {R : Value → Option Addr → Nat → Prop} (hf : Fl f sz) (h : Ct P g args m A (fun v m' B => ∃ p c, R v p c ∧ B = .own f sz E p c l :: B0)) :
    Ct P g args m A (fun v m' B => B = B0 ∧ ∃ p c, R v p c ∧ Sl m' f sz p c l) := by
  unfold Ct at h ⊢
  intro w0 Rest w hw
  refine (h w0 Rest w hw).mono fun _ _ ⟨v, m2, B, h1, h2, ⟨p, c, h3, hB⟩, h4⟩ => ?_
  subst hB
  obtain ⟨m3, hm3, sl, hw3⟩ := HW.freeze hf h4
  exact ⟨v, m3, B0, h1, Mem.le_trans h2 hm3, ⟨rfl, p, c, h3, sl⟩, hw3⟩
/-- a slice's literal, that stays -/
theorem At.litF {n : Nat} {w0 : World} {F : Fr} {Q : Exit → Act → World → Prop} {ops : Array Oper} {rest : List Oper} {d : Nat} {t E : TypeId} {len : Nat} {xs : List (Nat × Operand)} {ps : List (Nat × Value)} {ty : TypeId} {pos : String} {aft : Array Edge}
    (f : α → List Value) (l : List α) (hf : Fl f sz) (ht : P.underlying t = some (.slice E)) (he : elemB P E sz = true) (hx : evps F xs = some ps) (hsm : Nat.ble (len * sz) 16777216 = true) (hl : l.length = len)
    (hb : litL P E sz len ps = flat (l.flatMap f)) (hd : Nat.blt d n = true)
    (h : ∀ b m', m.le m' → Sl m' f sz (some ⟨b, 0, none⟩) len l → At n w0 ((d, .slice (some ⟨b, 0, none⟩) len len) :: F) m' Rs (wpList P ops Q rest)) :
    At n w0 F m Rs (wpList P ops Q (⟨some d, .buildSlice t len xs.toArray, ty, pos, aft, none⟩ :: rest)) :=
  At.lit f l hf ht he hx hsm hl hb hd (fun b => At.own_freeze hf pk0 fun m' hm' sl => h b m' hm' sl)
end
end Go.J
namespace Go.J
open Go
section
variable {P : Program} {n : Nat} {F : Fr} {C : World → Prop}
theorem run_equal_slnil {t e : TypeId} {p : Option Addr} {l c l2 c2 : Nat} (ht : P.underlying t = some (.slice e)) (w : World) : (Op.equal t (.slice p l c) (.slice none l2 c2)).run P w = .ok p.isNone w := by
  simp [Op.equal, Op.maxDepth, Lib.run_equalIn_slice_nil w 9999 t e p l c l2 c2 ht]
theorem pr_sleql {x y : Operand} {p : Option Addr} {l c l2 c2 : Nat} {t u e : TypeId} (ht : P.underlying t = some (.slice e)) (hx : ev F x = some (.slice p l c)) (hy : ev F y = some (.slice none l2 c2)) : PR P n F C (.binOp .eql t x y u) (.bool p.isNone) :=
  pr_eql_of hx hy (fun _ => rfl) (by cases p <;> rfl) (fun w _ => run_equal_slnil ht w)
theorem pr_slneq {x y : Operand} {p : Option Addr} {l c l2 c2 : Nat} {t u e : TypeId} (ht : P.underlying t = some (.slice e)) (hx : ev F x = some (.slice p l c)) (hy : ev F y = some (.slice none l2 c2)) : PR P n F C (.binOp .neq t x y u) (.bool !p.isNone) :=
  pr_neq_of hx hy (fun _ => rfl) (by cases p <;> rfl) (fun w _ => run_equal_slnil ht w)
def zeroOneB (P : Program) (e : TypeId) : Bool := match P.info? e with
  | some i => match i.zero with
    | some z => z.cells.toList.all oneCell
    | none => false
  | none => false
end
section
variable {P : Program} {n : Nat} {w0 : World} {F : Fr} {m : Mem} {Rs : List Res} {Q : Exit → Act → World → Prop} {α : Type} [Inhabited α] {f : α → List Value} {sz : Nat} {E : TypeId} {p : Option Addr} {c : Nat} {l : List α} {Rs' : List Res}
theorem pr_slice_own {x z : Operand} {t : TypeId} {ln hi : Nat} {k : IntKind} (hx : ev F x = some (.slice p ln c)) (hz : ev F z = some (.int k (hi : Int))) (hp : Pick Rs (.own f sz E p c l) Rs') (hl : l.length = hi) (ht : P.underlying t = some (.slice E)) (hs : sizeB P E = some sz) :
    PR P n F (HW w0 m Rs) (.slice t x none (some z) none) (.slice (subp p c 0 sz) (hi - 0) (c - 0)) := by
  subst hl
  exact fun d ty pos aft g a w ha hC => pr_slice_h hx hz ht hs (own_le hp w hC) d ty pos aft g a w ha hC
theorem zeroCells_one {z : Array Value} (h : z.toList.all oneCell = true) (k : Nat) : ∀ v ∈ (Builtin.zeroCells z k).toList, v.oneCell' = true := fun v hv => by
  simp only [Builtin.zeroCells, Array.toList_map, Array.toList_range, List.mem_map, List.mem_range] at hv
  obtain ⟨i, hi, rfl⟩ := hv
  have hz : 0 < z.size := by
    rcases Nat.eq_zero_or_pos z.size with e | e
    · rw [e] at hi; simp at hi
    · exact e
  have hm := Nat.mod_lt i hz
  have := List.all_eq_true.1 h z[i % z.size]! (by
    rw [getElem!_pos z _ hm]
    exact Array.getElem_mem_toList hm)
  generalize z[i % z.size]! = u at this
  cases u <;> first | rfl | (simp [oneCell] at this)
/-- the end of what one owns is cleared: the rest stays -/
theorem At.clearW {ops : Array Oper} {rest : List Oper} {d : Option Nat} {x : Operand} {t : TypeId} {ty : TypeId} {pos : String} {aft : Array Edge} {ln c2 : Nat} {q : Option Addr}
    (lo : Nat) (hx : ev F x = some (.slice q ln c2)) (hp : Pick Rs (.own f sz E p c l) Rs') (hq : q = subp p c lo sz) (hf : Fl f sz) (ht : P.underlying t = some (.slice E)) (he : elemB P E sz = true) (hz1 : zeroOneB P E = true) (hlo : lo ≤ l.length) (hln : ln = l.length - lo) (hd : d = none)
    (h : At n w0 F m (.own f sz E p c (l.take lo) :: Rs') (wpList P ops Q rest)) :
    At n w0 F m Rs (wpList P ops Q (⟨d, .call ⟨.builtin .clear, #[x], #[t]⟩, ty, pos, aft, none⟩ :: rest)) := fun a w ha hw =>
  wpList_plain rfl fun K hK => by
    subst hln hd hq
    obtain ⟨i, z, hi, hz, hsz, hbt, hzs⟩ := elemB_spec he
    have hone : z.cells.toList.all oneCell = true := by
      unfold zeroOneB at hz1; rw [hi] at hz1; simp only [hz] at hz1; exact hz1
    have hrow : ∀ s, (Res.own f sz E p c l).p w s → ∃ w', (Builtin.clear_ #[t] ty #[.slice (subp p c lo sz) (l.length - lo) c2]).run P w = .ok (.tuple #[]) w' ∧ (Res.own f sz E p c (l.take lo)).p w' s ∧ w'.os = w.os ∧ w'.tape = w.tape ∧ w'.output = w.output ∧ w.heap.size ≤ w'.heap.size ∧ (∀ k, k < w.heap.size → ¬ s k → w'.heap[k]? = w.heap[k]?) := fun s hown => by
      by_cases hz0 : l.length - lo = 0
      · have hl : l.take lo = l := List.take_of_length_le (by omega)
        rw [hz0, hl]
        refine ⟨w, ?_, hown, rfl, rfl, rfl, Nat.le_refl _, fun _ _ _ => rfl⟩
        cases subp p c lo sz <;> simp [Builtin.clear_, run_underlying ht]
      · rcases hown with ⟨rfl, rfl, rfl, hno⟩ | ⟨g, o, cur, rfl, h4, h5, h6, h7, h8, hgs⟩
        · simp at hz0
        · have hne : c ≠ lo := by omega
          have hsub : subp (some ⟨g, o, none⟩) c lo sz = some ⟨g, o + lo * sz, none⟩ := by unfold subp; rw [if_neg hne]; simp [Addr.add_eq]
          rw [hsub]
          have hlen : (Builtin.zeroCells z.cells (l.length - lo)).toList.length = (l.length - lo) * sz := by rw [Array.length_toList, size_zeroCells, hzs]
          have hcs : l.length * sz ≤ c * sz := Nat.mul_le_mul_right _ h5
          have hsp : (l.length - lo) * sz + lo * sz = l.length * sz := by rw [← Nat.add_mul]; congr 1; omega
          have hst := run_storeCells_at P g (o + lo * sz) E (Builtin.zeroCells z.cells (l.length - lo)).toList 0 cur w h4 (by omega) (zeroCells_one hone _)
          simp only [Nat.add_zero] at hst
          refine ⟨w.setRow g (cur.toList.take (o + lo * sz) ++ (Builtin.zeroCells z.cells (l.length - lo)).toList ++ cur.toList.drop (o + lo * sz + (Builtin.zeroCells z.cells (l.length - lo)).toList.length)).toArray, ?_, .inr ⟨g, o, (cur.toList.take (o + lo * sz) ++ (Builtin.zeroCells z.cells (l.length - lo)).toList ++ cur.toList.drop (o + lo * sz + (Builtin.zeroCells z.cells (l.length - lo)).toList.length)).toArray, rfl, setRow_heap w g cur _ E _ h4, by simp only [List.length_take]; omega, h6, ?_, fun j hj => ?_, hgs⟩, rfl, rfl, rfl, by simp, fun i _ hi => setRow_other w g i _ (fun e => hi ((hgs i).2 e))⟩
          · obtain ⟨k, hk⟩ : ∃ k, l.length - lo = k + 1 := ⟨l.length - lo - 1, by omega⟩
            have hzv : ∀ w, (zeroValue E).run P w = .ok z w := fun w => by simp [zeroValue, typeInfo, hi, hz]
            rw [hk] at hst ⊢
            simp [Builtin.clear_, run_underlying ht, hzv, hst]
          · simp only [List.size_toArray, List.length_append, List.length_take, List.length_drop, Array.length_toList, size_zeroCells, hzs]
            omega
          · have hj2 : j < lo * sz := by rw [List.length_take] at hj; exact Nat.lt_of_lt_of_le hj (Nat.mul_le_mul_right _ (Nat.min_le_left _ _))
            have hll : lo * sz ≤ l.length * sz := Nat.mul_le_mul_right _ hlo
            rw [List.getElem?_toArray, List.append_assoc, List.getElem?_append_left (by simp only [List.length_take, Array.length_toList]; omega), List.getElem?_take, if_pos (by omega), Array.getElem?_toList, h8 j (by omega)]
            have e : l.flatMap f = (l.take lo).flatMap f ++ (l.drop lo).flatMap f := by rw [← List.flatMap_append, List.take_append_drop]
            rw [e, List.getElem?_append_left (by rw [flatMap_length hf.len]; exact hj)]
    obtain ⟨s0, hown⟩ := hw.get hp
    obtain ⟨w', hr', _⟩ := hrow s0 hown
    have hrun' : (execOp a.eval ⟨none, .call ⟨.builtin .clear, #[x], #[t]⟩, ty, pos, aft, none⟩).run P w = .ok (.value (.tuple #[])) w' := by
      rw [BigFrame.execOp_builtin]
      simp [BigFrame.builtin_clear, ha.ev hx, hr']
    unfold Oper.wp
    rw [hrun']
    refine hK _ _ (h _ _ ha (hw.turn hp fun s hs => ?_))
    obtain ⟨w2, hr2, h2, g1, g2, g3, g4, g5⟩ := hrow s hs
    rw [hr'] at hr2
    injection hr2 with _ e2
    subst e2
    exact ⟨s, h2, g1, g2, g3, g4, g5, fun k hk => .inl hk⟩
end
end Go.J
namespace Go.J
open Go
/-- a region's end alone -/
def Fin (K : Act → World → Prop) : Exit → Act → World → Prop := fun e a w => e = .normal ∧ K a w
/-- a condition's value is known, and nothing else of the way to it -/
def JoinB (n : Nat) (w0 : World) (p : Prop) (t : Nat) (F0 : Fr) (m : Mem) (Rs : List Res) : Act → World → Prop := fun a w => ∃ b : Bool, (b = true ↔ p) ∧ HF n ((t, .bool b) :: F0) a ∧ HW w0 m Rs w
section
variable {P : Program} {n : Nat} {w0 : World} {F : Fr} {m : Mem} {Rs : List Res} {Q : Exit → Act → World → Prop} {K : Act → World → Prop}
theorem At.fin_n (h : At n w0 F m Rs K) : At n w0 F m Rs (Fin K .normal) := fun a w ha hw => ⟨rfl, h a w ha hw⟩
theorem At.cutp {id : Nat} {ops : Array Oper} {dr : Bool} {F0 : Fr} (p : Prop) [Decidable p] (t : Nat) (L : List Nat) (e0 : keepL L F = some F0)
    (hx : At n w0 F m Rs ((Code.region id ops dr).wp P (Fin (JoinB n w0 p t F0 m Rs))))
    (hy : At n w0 ((t, .bool (decide p)) :: F0) m Rs K) : At n w0 F m Rs ((Code.region id ops dr).wp P (Exit.then K Q)) := by
  have _ := e0
  refine fun a w ha hw => Code.wp_mono (fun e a' w' q => ?_) (hx a w ha hw)
  obtain ⟨rfl, b, hb, h1, h2⟩ := q
  have : b = decide p := by
    by_cases h : p
    · rw [decide_eq_true h]; exact hb.2 h
    · rw [decide_eq_false h]; cases b
      · rfl
      · exact absurd (hb.1 rfl) h
  subst this
  exact hy a' w' h1 h2
/-- where the ways of a region meet -/
theorem At.cutr {id : Nat} {ops : Array Oper} {dr : Bool} {σ : Type} {F0 : Fr} (L : List Nat) (upd : σ → Fr → Fr) (mx : σ → Mem) (Rx : σ → List Res) (I : σ → Prop) (e0 : keepL L F = some F0)
    (hx : At n w0 F m Rs ((Code.region id ops dr).wp P (Fin (fun a w => ∃ s, I s ∧ HF n (upd s F0) a ∧ HW w0 (mx s) (Rx s) w))))
    (hy : ∀ s, I s → At n w0 (upd s F0) (mx s) (Rx s) K) : At n w0 F m Rs ((Code.region id ops dr).wp P (Exit.then K Q)) := by
  have _ := e0
  refine fun a w ha hw => Code.wp_mono (fun e a' w' q => ?_) (hx a w ha hw)
  obtain ⟨rfl, s, hI, h1, h2⟩ := q
  exact hy s hI a' w' h1 h2
theorem At.endp {p : Prop} {t : Nat} {F0 : Fr} {m0 : Mem} {Rs0 : List Res} {b : Bool} (ht : look t F = some (.bool b)) (hs : Subs F0 F) (hm : m0.le m) (hR : Ent Rs Rs0) (hp : b = true ↔ p) : At n w0 F m Rs (JoinB n w0 p t F0 m0 Rs0) :=
  fun a w ha hw => ⟨b, hp, (ha.weaken (F' := (t, .bool b) :: F0) ⟨ht, hs⟩), (hw.ent hR).weak hm⟩
end
end Go.J
