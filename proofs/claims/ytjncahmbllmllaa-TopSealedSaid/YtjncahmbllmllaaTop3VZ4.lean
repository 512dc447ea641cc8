/- TopSealed: whatever is read, the law's call returns true; no condition. -/
import Derived.Test.YtjncahmbllmllaaTop3VZ3
/- TopSealed, as it is walked. -/
set_option linter.unusedSimpArgs false
set_option linter.unusedVariables false
set_option linter.unusedSectionVars false
set_option maxRecDepth 20000
set_option maxHeartbeats 4000000
namespace Go.Proofs.Ytjncahmbllmllaa
open Go Go.J
attribute [local irreducible] At AtQ AtM AtM1 PR Ct Pu Rd Res.blk Res.own Res.byt Res.ex RVs RV Cod.W
namespace Top3
open Lb (bytesL bodyL right few chk check chk_ok chk_right okOf ofL ofE)
open Seal (frame onl)
theorem bytesR {m : Mem} (p : Option Addr) (c : Nat) (l : List Lab) (b : List UInt8) (hb : Lb.Mid l) (hr : right l) (e : bytesL l = b) (sl0 : Sl m Lb.cells 2 p c l) :
    Rd Try.prog 16 #[.slice p l.length c] m [] (.tuple #[.string (str b), .int .i64 0]) := by
  have h := Lb.bytes p c l hb sl0
  rw [if_pos hr, chk_ok hr, e] at h
  exact h
theorem right_mid {l : List Lab} (h : right l) : Lb.Mid l := fun i hi => by
  have := Lb.right_at h hi; omega
set_option maxHeartbeats 8000000 in
theorem sealedT {m : Mem} (p : Option Addr) (c : Nat) (l : List Lab) (kind : Nat) (hk : kind < 256) (a v : Nat) (ha : a < 65536) (hv : v < 256) (t : List UInt8) (sl0 : Sl m Lb.cells 2 p c l) :
    Ct Try.prog 4 #[.slice p l.length c, .int .u8 (kind : Int), .int .u16 (a : Int), .int .u8 (v : Int), .string (str t)] m [] (fun v m' B => v = .bool true ∧ B = []) := by
  have hbg := begins
  have hs1 := fun (m' : Mem) (hm' : m.le m') => Lb.small (m := m') p c l (sl0.mono hm')
  by_cases hf : few l
  rotate_left
  · rw [if_neg hf] at hs1
    refine Ct.enterV (by rfl) Try.func4 rfl Try.ntmps4 rfl (fun w0 Rest => ?_)
    (repeat' (first | refine zss ?_ | refine zsM ?_ | ((with_reducible first | apply AtM1.callp | apply AtQ.callp | apply At.callp); kernel_rfl; exact rfl; exact rfl; exact hbg) | ((with_reducible first | apply AtM1.cr | apply AtQ.cr | apply At.cr); exact rfl; exact rfl; exact fun _ hmm => hs1 _ hmm; exact ztk; kernel_rfl) | (refine zsp ?_ ?_ <;> (intro hc; (try simp only [zhcs, reduceCtorEq] at hc); (try (exfalso; first | omega | contradiction | omega | exact absurd rfl hc | exact absurd (by decide) hc))))))
    all_goals ((with_reducible apply At.retB1 (B := [])); exact rfl; exact rfl; exact zml; exact zkp; exact ⟨rfl, rfl⟩)
  rw [if_pos hf] at hs1
  by_cases htl : t.length ≤ 8192
  rotate_left
  · refine Ct.enterV (by rfl) Try.func4 rfl Try.ntmps4 rfl (fun w0 Rest => ?_)
    (repeat' (first | refine zss ?_ | refine zsM ?_ | ((with_reducible first | apply AtM1.callp | apply AtQ.callp | apply At.callp); kernel_rfl; exact rfl; exact rfl; exact hbg) | ((with_reducible first | apply AtM1.cr | apply AtQ.cr | apply At.cr); exact rfl; exact rfl; exact fun _ hmm => hs1 _ hmm; exact ztk; kernel_rfl) | (refine zsp ?_ ?_ <;> (intro hc; (try simp only [zhcs, reduceCtorEq] at hc); (try (exfalso; first | omega | contradiction | omega | exact absurd rfl hc | exact absurd (by decide) hc))))))
    all_goals ((with_reducible apply At.retB1 (B := [])); exact rfl; exact rfl; exact zml; exact zkp; exact ⟨rfl, rfl⟩)
  have hO := Seal.onlyP kind t hk (by omega)
  have hfw : (onl kind t).2 = 0 → frame kind (onl kind t).1 = t ∧ (onl kind t).1.length ≤ 4194304 ∧ (onl kind t).1.length ≤ t.length := fun h => Seal.only_fwd (Prod.ext rfl h)
  generalize (onl kind t).1 = ld at hO hfw
  generalize (onl kind t).2 = w0' at hO hfw
  refine Ct.enterV (by rfl) Try.func4 rfl Try.ntmps4 rfl (fun w0 Rest => ?_)
  (repeat' (first | ((refine At.cutk (t := 48) (σ := Unit) [0, 1, 2, 3] (fun s F0 => F0) (fun s => m) (fun s => Rest) (fun s => True) (by rfl) (by rfl) ?_ ?_); (refine ⟨?_, ?_⟩ <;> (intro hc; (try simp only [zhcs, reduceCtorEq] at hc); (try (exfalso; first | contradiction | omega | exact absurd rfl hc | exact absurd (by decide) hc))))) | refine zss ?_ | refine zsM ?_ | ((with_reducible first | apply AtM1.callp | apply AtQ.callp | apply At.callp); kernel_rfl; exact rfl; exact rfl; exact hbg) | ((with_reducible first | apply AtM1.cr | apply AtQ.cr | apply At.cr); exact rfl; exact rfl; exact fun _ hmm => hs1 _ hmm; exact ztk; kernel_rfl) | ((with_reducible first | apply AtM1.callp | apply AtQ.callp | apply At.callp); kernel_rfl; exact rfl; exact rfl; exact hO) | (refine zsp ?_ ?_ <;> (intro hc; (try simp only [zhcs, reduceCtorEq] at hc); (try (exfalso; first | omega | contradiction | omega | exact absurd rfl hc | exact absurd (by decide) hc))))))
  · rename_i hc
    obtain ⟨g1, g2, g3⟩ := hfw (by simpa using hc)
    have kO := fun m => Lb.of_ (m := m) ld (by omega)
    by_cases hok : okOf ld
    · obtain ⟨g4, g5⟩ := Lb.of_bytes hok
      have kB := fun (m : Mem) p c sl => bytesR (m := m) p c (ofL ld) ld (right_mid g5) g5 g4 sl
      have kF := Top2.frameC kind ld hk g2
      rw [g1] at kF
      rw [show ofE ld = 0 from if_pos hok] at kO
      generalize ofL ld = M at kO kB
      (repeat' (first | refine zss ?_ | refine zsM ?_ | ((with_reducible first | apply At.c1 | apply At.c0); exact rfl; exact rfl; exact kO _; exact ztk; kernel_rfl; rintro v' m' B' hm' ⟨rfl, p5, c5, rfl, sl5⟩; (try replace sl0 := sl0.mono hm'); (try replace sl5 := sl5.mono hm'); (try replace sl6 := sl6.mono hm'); (try (have hq0 : hm' = Mem.le_refl _ := rfl; clear hq0 hm'))) | ((with_reducible first | apply AtM1.cr | apply AtQ.cr | apply At.cr); exact rfl; exact rfl; exact fun _ hmm => kB _ p5 c5 (sl5.mono hmm); exact ztk; kernel_rfl) | ((with_reducible first | apply AtM1.callp | apply AtQ.callp | apply At.callp); kernel_rfl; exact rfl; exact rfl; exact kF) | (refine zsp ?_ ?_ <;> (intro hc; (try simp only [zhcs, reduceCtorEq] at hc); (try (exfalso; first | (first | omega | exact hc rfl) | contradiction | omega | exact absurd rfl hc | exact absurd (by decide) hc))))))
      all_goals ((with_reducible refine At.reachk (()) ?_ ?_ ?_ ?_); exact zsubs; exact zml; exact zente; exact trivial)
    · rw [show ofE ld = 4 from if_neg hok] at kO
      generalize ofL ld = M at kO
      (repeat' (first | refine zss ?_ | refine zsM ?_ | ((with_reducible first | apply At.c1 | apply At.c0); exact rfl; exact rfl; exact kO _; exact ztk; kernel_rfl; rintro v' m' B' hm' ⟨rfl, p5, c5, rfl, sl5⟩; (try replace sl0 := sl0.mono hm'); (try replace sl5 := sl5.mono hm'); (try replace sl6 := sl6.mono hm'); (try (have hq0 : hm' = Mem.le_refl _ := rfl; clear hq0 hm'))) | (refine zsp ?_ ?_ <;> (intro hc; (try simp only [zhcs, reduceCtorEq] at hc); (try (exfalso; first | omega | contradiction | omega | exact absurd rfl hc | exact absurd (by decide) hc))))))
      all_goals ((with_reducible refine At.reachk (()) ?_ ?_ ?_ ?_); exact zsubs; exact zml; exact zente; exact trivial)
  · (repeat' (first | refine zss ?_ | refine zsM ?_ | (refine zsp ?_ ?_ <;> (intro hc; (try simp only [zhcs, reduceCtorEq] at hc); (try (exfalso; first | contradiction | omega | exact absurd rfl hc | exact absurd (by decide) hc))))))
    all_goals ((with_reducible refine At.reachk (()) ?_ ?_ ?_ ?_); exact zsubs; exact zml; exact zente; exact trivial)
  rintro - -
  have hk1 := fun (m' : Mem) (hm' : m.le m') => check (m := m') p c l hf.mid (sl0.mono hm')
  by_cases hr : right l
  rotate_left
  · have kB := fun (m' : Mem) (hm' : m.le m') => Lb.bytes (m := m') p c l hf.mid (sl0.mono hm')
    rw [if_neg hr] at kB
    have hd : chk l ≠ 0 := fun k => hr (chk_right.1 k)
    generalize chk l = w at hk1 hd kB
    (repeat' (first | refine zss ?_ | refine zsM ?_ | ((with_reducible first | apply AtM1.cr | apply AtQ.cr | apply At.cr); exact rfl; exact rfl; exact fun _ hmm => kB _ hmm; exact ztk; kernel_rfl) | ((with_reducible first | apply AtM1.cr | apply AtQ.cr | apply At.cr); exact rfl; exact rfl; exact fun _ hmm => hk1 _ hmm; exact ztk; kernel_rfl) | (refine zsp ?_ ?_ <;> (intro hc; (try simp only [zhcs, reduceCtorEq] at hc); (try (exfalso; first | (first | omega | exact absurd hc hd | exact absurd rfl hc) | contradiction | omega | exact absurd rfl hc | exact absurd (by decide) hc))))))
    all_goals ((with_reducible apply At.retB1 (B := [])); exact rfl; exact rfl; exact zml; exact zkp; exact ⟨by first | rfl | exact congrArg Value.bool (decide_eq_true rfl), rfl⟩)
  have kB := fun (m' : Mem) (hm' : m.le m') => bytesR (m := m') p c l (bytesL l) hf.mid hr rfl (sl0.mono hm')
  have hln : l.length ≤ 16 := hr.2.1
  obtain ⟨b1, b2⟩ := Lb.of_back hr
  have kO := fun m => Lb.of_ (m := m) (bytesL l) (by
    have := Lb.body_len (l := l) (fun i hi => Lb.right_at hr hi) l.length (Nat.le_refl _)
    rw [List.take_length] at this
    have := Cod.uintB_len10 (n := l.length) (by omega)
    unfold bytesL
    rw [List.length_append]; omega)
  rw [b1, b2] at kO
  have hSl : (bytesL l).length ≤ 6000 ∧ 0 < (bytesL l).length := by
    have h1 := Lb.body_len (l := l) (fun i hi => Lb.right_at hr hi) l.length (Nat.le_refl _)
    rw [List.take_length] at h1
    have h2 := Cod.uintB_len10 (n := l.length) (by omega)
    have h3 := Cod.uintB_pos l.length
    unfold bytesL
    rw [List.length_append]; omega
  generalize bytesL l = S at kB kO hSl
  have kF := Top2.frameC kind S hk (by omega)
  have kP := Seal.onlyP kind (frame kind S) hk (by have := Top2.frame_len (t := S) hk; have := Cod.uintB_len10 (n := S.length) (by omega); omega)
  rw [Top2.only_frame hk (by omega)] at kP
  have hFl := Top2.frame_len (t := S) hk
  have hU := Cod.uintB_pos S.length
  have hU2 := Cod.uintB_len10 (n := S.length) (by omega)
  have hat := fun j hj => Seal.frame_at (k := kind) (t := S) (j := j) hj
  have hbad := fun j (c : UInt8) (hj : j < S.length) hc => Seal.only_bad (k := kind) (t := S) (j := j) (c := c) (by omega) hj hc
  have kP2 := fun F' (h : F'.length = (frame kind S).length) => Seal.onlyP kind F' hk (by omega)
  have hself : onl kind (frame kind S) = (S, 0) := Top2.only_frame hk (by omega)
  generalize frame kind S = F at kF kP hFl hat hbad kP2 hself
  generalize (Cod.uintB S.length).length = U at hFl hU hU2 hat hbad
  have hlt := Nat.mod_lt a hSl.2
  obtain ⟨j, hj⟩ : ∃ j, a % S.length = j := ⟨_, rfl⟩
  rw [hj] at hlt
  have hml : (F.map bI).length = F.length := by simp
  have x1 : IntKind.wrap .i64 (((F.map bI).length : Int) - 4) = ((F.length - 4 : Nat) : Int) := by rw [hml, show (F.length : Int) - 4 = ((F.length - 4 : Nat) : Int) by omega]; exact IntWalk.i64_in _ (by omega)
  have x2 : IntKind.wrap .i64 (((F.length - 4 : Nat) : Int) - (S.length : Int)) = ((1 + U : Nat) : Int) := by rw [show ((F.length - 4 : Nat) : Int) - (S.length : Int) = ((1 + U : Nat) : Int) by omega]; exact IntWalk.i64_in _ (by omega)
  have x3 : ((a : Int)).tmod (S.length : Int) = (j : Int) := by rw [Int.tmod_eq_emod_of_nonneg (by omega), ← hj]; rfl
  have x4 : IntKind.wrap .i64 (((1 + U : Nat) : Int) + (j : Int)) = ((1 + U + j : Nat) : Int) := by rw [← Int.natCast_add]; exact IntWalk.i64_in _ (by omega)
  have hidx : 1 + U + j < (F.map bI).length := by omega
  have hge : (F.map bI)[1 + U + j]! = bI (S[j]!) := by rw [← hat j hlt, getElem!_pos (F.map bI) (1 + U + j) hidx, List.getElem_map, getElem!_pos F _ (by omega)]
  obtain ⟨c', hc'⟩ : ∃ c', UInt8.ofNat ((S[j]!).toNat ^^^ v) = c' := ⟨_, rfl⟩
  have hx : bits .xor .u8 ((F.map bI)[1 + U + j]!) (v : Int) = bI c' := by rw [hge, ← hc']; exact Top2.xor_b _ v hv
  have hst : (F.map bI).set (1 + U + j) (bI c') = (F.set (1 + U + j) c').map bI := by rw [List.map_set]
  have hml2 : (F.map bI).length = ((F.set (1 + U + j) c').map bI).length := by simp
  have hmp : ((F.set (1 + U + j) c').map bI).map u8 = F.set (1 + U + j) c' := by rw [List.map_map]; simp [Function.comp_def, u8_bI]
  have kP3 := kP2 (F.set (1 + U + j) c') (by simp)
  have kq : Pu Try.prog 14 #[.int .u8 (kind : Int), .string (str (((F.set (1 + U + j) c').map bI).map u8))] (.tuple #[.string (str (onl kind (F.set (1 + U + j) c')).1), .int .i64 (onl kind (F.set (1 + U + j) c')).2]) := by rw [hmp]; exact kP3
  have hend : (v = 0 → (onl kind (F.set (1 + U + j) c')).2 = 0) ∧ (v ≠ 0 → (onl kind (F.set (1 + U + j) c')).2 = 4) := by
    constructor
    · intro h0
      subst h0
      have : c' = F[1 + U + j]! := by rw [← hc', Nat.xor_zero, hat j hlt]; simp
      have e : F.set (1 + U + j) c' = F := by
        rw [this, getElem!_pos F _ (by omega), List.set_getElem_self]
      rw [e, hself]
    · intro h0
      rw [hbad j c' hlt (by rw [← hc']; exact Top2.xor_ne hv h0)]
  (repeat' (first | (refine At.cutr (id := 23) (σ := Unit) [1, 3, 27] (fun s F0 => F0) (fun s => m') (fun s => .byt 5 pb cb ((F.set (1 + U + j) c').map bI) :: Rest) (fun s => True) (by rfl) ?_ ?_) | refine zss ?_ | ((first | (with_reducible first | apply At.val | apply AtQ.val)); (first | exact pr_sub (by rfl) (by rfl) x1 | exact pr_sub (by rfl) (by rfl) x2 | exact pr_rem (by rfl) (by rfl) (by omega) x3 | exact pr_add (by rfl) (by rfl) x4 | exact pr_xor (by rfl) (by rfl) hx | exact pr_index_byt (by rfl) (by rfl) (by repeat constructor) (by rfl) (by rfl) rfl hidx | exact pr_load_byt (by rfl) (by repeat constructor) hidx (by rfl)); exact rfl) | refine zsM ?_ | ((with_reducible first | apply AtM1.cr | apply AtQ.cr | apply At.cr); exact rfl; exact rfl; exact fun _ hmm => kB _ (Mem.le_trans (by first | exact Mem.le_refl _ | assumption) hmm); exact ztk; kernel_rfl) | ((with_reducible first | apply AtM1.callp | apply AtQ.callp | apply At.callp); kernel_rfl; exact rfl; exact rfl; exact kF) | ((with_reducible first | apply AtM1.callp | apply AtQ.callp | apply At.callp); kernel_rfl; exact rfl; exact rfl; exact kP) | ((with_reducible first | apply At.c1 | apply At.c0); exact rfl; exact rfl; exact kO _; exact ztk; kernel_rfl; rintro v' m' B' hm' ⟨rfl, p5, c5, rfl, sl5⟩; (try replace sl0 := sl0.mono hm'); (try replace sl5 := sl5.mono hm'); (try replace sl6 := sl6.mono hm'); (try (have hq0 : hm' = Mem.le_refl _ := rfl; clear hq0 hm'))) | ((with_reducible first | apply AtM1.cr | apply AtQ.cr | apply At.cr); exact rfl; exact rfl; exact fun _ hmm => sameC p5 c5 l.length l p c l.length (by omega) rfl rfl (sl5.mono hmm) (sl0.mono hmm); exact ztk; kernel_rfl) | ((with_reducible apply At.str_own); exact rfl; exact rfl; exact rfl; exact rfl; omega; exact rfl; intro pb cb) | ((with_reducible apply At.store_byt); exact rfl; exact rfl; exact (by repeat constructor); exact rfl; exact hidx) | (refine zsp ?_ ?_ <;> (intro hc; (try simp only [zhcs, reduceCtorEq] at hc); (try (exfalso; first | (first | omega | exact absurd rfl hc) | contradiction | omega | exact absurd rfl hc | exact absurd (by decide) hc))))))
  · rw [hst]
    ((with_reducible refine At.reachk (()) ?_ ?_ ?_ ?_); exact zsubs; exact zml; exact zente; exact trivial)
  rintro - -
  refine At.byt_freeze pk0 fun m2 hm2 sl6 => ?_
  by_cases h0 : v = 0
  · have e0 := hend.1 h0
    rw [e0] at kq
    generalize (onl kind (F.set (1 + U + j) c')).1 = Y at kq
    (repeat' (first | refine zss ?_ | ((first | (with_reducible first | apply At.val | apply AtQ.val)); (exact pr_bytes_str (by rfl) (by rfl) (by rfl) (by rfl) (Sl.rdb sl6) hml2); exact rfl) | refine zsM ?_ | ((with_reducible first | apply AtM1.callp | apply AtQ.callp | apply At.callp); kernel_rfl; exact rfl; exact rfl; exact kq) | (refine zsp ?_ ?_ <;> (intro hc; (try simp only [zhcs, reduceCtorEq] at hc); (try (exfalso; first | (first | omega | (simp [h0] at hc; done)) | contradiction | omega | exact absurd rfl hc | exact absurd (by decide) hc))))))
    all_goals ((with_reducible apply At.retB1 (B := [])); exact rfl; exact rfl; exact zml; exact zkp; exact ⟨by first | rfl | simp [h0], rfl⟩)
  · have e0 := hend.2 h0
    rw [e0] at kq
    generalize (onl kind (F.set (1 + U + j) c')).1 = Y at kq
    (repeat' (first | refine zss ?_ | ((first | (with_reducible first | apply At.val | apply AtQ.val)); (exact pr_bytes_str (by rfl) (by rfl) (by rfl) (by rfl) (Sl.rdb sl6) hml2); exact rfl) | refine zsM ?_ | ((with_reducible first | apply AtM1.callp | apply AtQ.callp | apply At.callp); kernel_rfl; exact rfl; exact rfl; exact kq) | (refine zsp ?_ ?_ <;> (intro hc; (try simp only [zhcs, reduceCtorEq] at hc); (try (exfalso; first | (first | omega | (simp [h0] at hc; done)) | contradiction | omega | exact absurd rfl hc | exact absurd (by decide) hc))))))
    all_goals ((with_reducible apply At.retB1 (B := [])); exact rfl; exact rfl; exact zml; exact zkp; exact ⟨by first | rfl | simp [h0], rfl⟩)
end Top3
end Go.Proofs.Ytjncahmbllmllaa
/- TopSealed: whatever is read, the law's call returns true; no condition. -/
set_option linter.unusedSimpArgs false
set_option linter.unusedVariables false
set_option linter.unusedSectionVars false
set_option maxRecDepth 20000
set_option maxHeartbeats 4000000
namespace Go.Proofs.Ytjncahmbllmllaa
open Go Go.J
attribute [local irreducible] At AtQ AtM AtM1 PR Ct Pu Rd Res.blk Res.own Res.ex RVs RV
namespace Top3
theorem sealedI {m : Mem} (p : Option Addr) (c : Nat) (l : List Lab) (kind a v : Int) (hk : 0 ≤ kind ∧ kind ≤ 255) (ha : 0 ≤ a ∧ a ≤ 65535) (hv : 0 ≤ v ∧ v ≤ 255) (t : List UInt8) (sl0 : Sl m Lb.cells 2 p c l) :
    Ct Try.prog 4 #[.slice p l.length c, .int .u8 kind, .int .u16 a, .int .u8 v, .string (str t)] m [] (fun v m' B => v = .bool true ∧ B = []) := by
  obtain ⟨k, rfl⟩ : ∃ k : Nat, kind = k := ⟨kind.toNat, by omega⟩
  obtain ⟨a, rfl⟩ : ∃ k : Nat, a = k := ⟨a.toNat, by omega⟩
  obtain ⟨v, rfl⟩ : ∃ k : Nat, v = k := ⟨v.toNat, by omega⟩
  exact sealedT p c l k (by omega) a v (by omega) (by omega) t sl0
end Top3
namespace TopSealedL
open Go.ChangeShapes Go.WideShapes Go.ChangeAt Go.RowKit
open Go.ChangeMaps (open_string shut_string)
theorem own : ownKnob Try.prog.godebug = none := by kernel_rfl
theorem laidOut : laidOutB Try.prog = true := by kernel_rfl
set_option maxRecDepth 100000 in
theorem lifted (os : Os) (started : os.Started) (H : Type) (enc : TypeId × Value → H) :
    ReturnsInHanded {} Try.checked os 4 .any (Rows.topSealedSpec.pre6 enc Try.prog Try.f4 Rows.topSealedRow.domain false) (Rows.topSealedSpec.post enc Try.prog Try.f4 false true false false) := by
  refine returnsInHanded_of_change (C := Try.checked) own started (by kernel_rfl) Try.func4
    (ChangeSpec.witness6 (enc := enc) (C := Try.checked) false ⟨#[], #[.slice none 0 0, .int .u8 0, .int .u16 0, .int .u8 0, .string .empty], []⟩ 8 (by kernel_rfl) (by kernel_rfl) (by kernel_rfl) (by kernel_rfl)) ?_
  intro W base args ds gs before hval0 hW hcnd _
  have hval : ∀ (j : Nat) t v, Try.f4.params[j]? = some t → args[j]? = some v → Value.okWide Try.prog W .any base t v := hval0
  have hW' := hW
  obtain ⟨p, q, hA0, hV, rfl, hfz, hnd⟩ := hW
  have hA : DataW.TrodAll enc Try.prog W 0 (fun _ => true) true Try.f4.params.toList args.toList ds p := hA0
  rw [Try.params4] at hA hval
  obtain ⟨rfl, rfl⟩ := trodVars_none hV
  have hlt : ∀ x ∈ p, x.block < W.heap.size := fun x hx => hW'.lt x (by simpa using hx)
  have hback := fun (W' : World) (bel : Below W.heap.size W W') => trodAll_below laidOut bel _ _ _ _ (by kernel_rfl) hA hlt
  obtain ⟨v0, vs0, d0, ds0, p0, q0, hargs, rfl, rfl, h0, r0⟩ := trodAll_cons hA
  obtain ⟨v1, vs1, d1, ds1, p1, q1, rfl, rfl, rfl, h1, r1⟩ := trodAll_cons r0
  obtain ⟨v2, vs2, d2, ds2, p2, q2, rfl, rfl, rfl, h2, r2⟩ := trodAll_cons r1
  obtain ⟨v3, vs3, d3, ds3, p3, q3, rfl, rfl, rfl, h3, r3⟩ := trodAll_cons r2
  obtain ⟨v4, vs4, d4, ds4, p4, q4, rfl, rfl, rfl, h4, r4⟩ := trodAll_cons r3
  obtain ⟨rfl, rfl, rfl⟩ := trodAll_nil r4
  obtain rfl : args = #[v0, v1, v2, v3, v4] := by cases args; simp_all
  obtain ⟨p0, c0, a0, rfl, s0, w0⟩ := open_sl_arg (f := Lb.cells) (sz := 2) inferInstance (fun _ => True) Try.underlying22 (by rfl) (dec_flat' [.str, .str] (by kernel_rfl) Mt.dec_lab) (okWide_slice Try.underlying22 (hval 0 22 v0 rfl rfl)) h0
  obtain ⟨a1, rfl, rfl, rfl, w1⟩ := open_int Try.underlying5 (hval 1 5 v1 rfl rfl) h1
  obtain ⟨a2, rfl, rfl, rfl, w2⟩ := open_int Try.underlying42 (hval 2 42 v2 rfl rfl) h2
  obtain ⟨a3, rfl, rfl, rfl, w3⟩ := open_int Try.underlying5 (hval 3 5 v3 rfl rfl) h3
  obtain ⟨x4, rfl, rfl, rfl, w4⟩ := open_string Try.underlying9 (hval 4 9 v4 rfl rfl) h4
  obtain ⟨a4, rfl⟩ := str_of x4
  refine (law_calls (Ct.mono (Top3.sealedI (m := memOf W) p0 c0 a0 a1 a2 a3 (bounds_u8 w1) (bounds_u16 w2) (bounds_u8 w3) a4 s0) fun v m' B _ h => h.1)).mono fun e W' ⟨he, bel⟩ => ?_
  subst he
  exact ⟨_, rfl, _, _, _, [], _, [], hW', trodAll_mk1 (shut_bool Try.underlying4 _), hback W' bel, rfl, bel.frame _, fun h => by cases h⟩
theorem over : Rows.topSealedRow.holds Try.pinned (OpenSpec.ofChange Rows.topSealedSpec) :=
  OpenClaim.holds_of_wide 4 Try.f4 rfl rfl rfl rfl rfl rfl rfl ⟨rfl, rfl, rfl, rfl, rfl⟩ rfl rfl rfl rfl rfl (by kernel_rfl) Try.func4 (by kernel_rfl)
    (of_decide_eq_true (by kernel_rfl)) (by unfold Func.isWrapper; first | (rw [if_pos (by decide +kernel)]; kernel_rfl) | (rw [if_neg (by decide +kernel)]; exact ⟨rfl, rfl⟩))
    (fun os started H enc _ => lifted os started H enc)
theorem proved : Rows.TopSealedSaid := over
end TopSealedL
end Go.Proofs.Ytjncahmbllmllaa
