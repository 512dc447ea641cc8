/- Part 5 of what the law's proof needs: rules of the walk, contracts of functions, plain laws. No condition. -/
import Derived.Test.YtijgnbedilipdaaTdEZ4
import Derived.Test.YtijgnbedilipdaaRows
import Derived.Lib.FrozenHead
set_option linter.unusedSimpArgs false
set_option linter.unusedVariables false
set_option linter.unusedSectionVars false
set_option maxRecDepth 20000
namespace Go.J
open Go
theorem zhcs : (∀ (p : Prop) [Decidable p], (decide p = true) = p) ∧ (∀ (p : Prop) [Decidable p], (decide p = false) = ¬ p) ∧ (∀ b : Bool, ((!b) = true) = (b = false)) ∧ (∀ b : Bool, ((!b) = false) = (b = true)) ∧
    (∀ a b : Bool, ((a && b) = true) = (a = true ∧ b = true)) ∧ (∀ a b : Bool, ((a || b) = true) = (a = true ∨ b = true)) ∧ (∀ a b : Bool, ((a && b) = false) = (a = false ∨ b = false)) ∧ (∀ a b : Bool, ((a || b) = false) = (a = false ∧ b = false)) ∧
    (∀ a b : Bool, ((a != b) = true) = (a ≠ b)) ∧ (∀ a b : Bool, ((a == b) = true) = (a = b)) ∧ (∀ a b : Bool, ((a == b) = false) = (a ≠ b)) ∧ (∀ a b : Bool, ((a != b) = false) = (a = b)) ∧
    ((!true) = false) ∧ ((!false) = true) ∧ (∀ p : Prop, (¬ ¬ p) = p) ∧ ((¬ True) = False) ∧ ((¬ False) = True) ∧ ((false = true) = False) ∧ ((true = false) = False) ∧
    ((none : Option Addr).isNone = true) ∧ (∀ x : Addr, (some x).isNone = false) ∧ (∀ b : Bool, (b && true) = b) ∧ (∀ p : Prop, (p ∧ True) = p) ∧ (∀ (a : Bool) (l : List Bool), andL (a :: l) = (a && andL l)) ∧ (andL [] = true) :=
  ⟨fun _ _ => decide_eq_true_eq, fun _ _ => by simp, by decide, by decide, by decide, by decide, by decide, by decide, by decide, by decide, by decide, by decide, rfl, rfl, fun p => by rw [Classical.not_not], by simp, by simp, by simp, by simp, rfl, fun _ => rfl, by decide, fun p => by simp, fun _ _ => andL_cons .., andL_nil⟩
theorem zrf {α : Type} {a b : α} (h : a = b := by first | rfl | fail) : a = b := h
theorem zom {p : Prop} (h : p := by first | omega | (simp only [lns] <;> omega) | fail) : p := h
theorem zomb {p : Prop} (h : p := by first | omega | (simp only [IntKind.bits] <;> omega) | fail) : p := h
theorem zlq {p : Prop} (h : p := by first | exact rfl | omega | (simp only [lns] <;> omega) | fail) : p := h
theorem zinr {p : Prop} (h : p := by first | exact IntWalk.i64_in _ (by omega) | exact IntWalk.u64_in _ (by omega) | exact IntWalk.u8_in _ (by omega) | exact IntWalk.u32_in _ (by omega) | exact IntKind.wrap_u64 _ | exact IntKind.wrap_i64 _ | exact IntKind.wrap_u32 _ | exact IntKind.wrap_u8 _ | fail) : p := h
theorem ztk {A R Y : List Res} (h : Take A R Y := by (repeat' (first | exact Take.nil | ((with_reducible apply Take.cons); (focus ((repeat constructor); done)))))) : Take A R Y := h
theorem zkp {A R Y : List Res} (h : Keep A R Y := by (repeat' (first | exact Keep.nil | ((with_reducible apply Keep.cons); exact (by repeat constructor)) | (with_reducible apply Keep.skip)))) : Keep A R Y := h
theorem zlw {A R : List Res} (h : Low A R := by (repeat' (first | exact Low.base | ((with_reducible apply Low.cons); exact (by repeat constructor)) | (with_reducible apply Low.skip)))) : Low A R := h
theorem zlf {A R Y : List Res} (h : Left A R Y := by (repeat' (first | exact Left.base | ((with_reducible apply Left.cons); exact (by repeat constructor)) | (with_reducible apply Left.extra)))) : Left A R Y := h
theorem zml {m m' : Mem} (h : m.le m' := by first | exact Mem.le_refl _ | assumption | exact Mem.le_trans (by assumption) (by assumption) | (focus ((iterate 16 (first | done | assumption | refine Mem.le_trans ?_ (by assumption))); done)) | fail) : m.le m' := h
theorem zsubs {A B : Fr} (h : Subs A B := by first | exact trivial | (repeat' (first | exact trivial | refine ⟨rfl, ?_⟩ | refine ⟨look_int (by rfl) (by first | omega | (dsimp only; omega)), ?_⟩))) : Subs A B := h
theorem zente {A B : List Res} (h : Ent A B := by first | exact Ent.refl _ | (refine Low.ent ?_; exact zlw) | fail) : Ent A B := h
section
variable {α : Type} [Inhabited α] {f : α → List Value} {sz : Nat} {p : Option Addr} {c : Nat} {l : List α} {P : Program} {n : Nat} {F : Fr} {C : World → Prop} {op : Op} {v : Value} {m : Mem}
theorem zsla (h : Sl m f sz p c l := by first | assumption | exact Sl.mono (by assumption) (by assumption) | fail) : Sl m f sz p c l := h
theorem zrdb (h : Rdb C f sz p c l := by first | exact own_rdb inferInstance (by repeat constructor) | exact Sl.rdb zsla | fail) : Rdb C f sz p c l := h
theorem zpr0 (h : PR P n F C op v := by first | ((with_reducible first | apply pr_move | apply pr_assign | apply pr_extract | apply pr_nilCheck | apply pr_lss | apply pr_leq | apply pr_gtr | apply pr_geq | apply pr_eql | apply pr_neq | apply pr_not | apply pr_pick_t | apply pr_len_sl | apply pr_fieldAddr0 | apply pr_build | apply pr_field1 | apply pr_makeFunc | apply pr_and | apply pr_or | apply pr_xor | apply pr_andnot | apply pr_min | apply pr_max) <;> exact rfl) | ((with_reducible first | apply pr_pick_f | apply pr_beql | apply pr_bneq | apply pr_len_str | apply pr_fieldAddrL | apply pr_fieldN) <;> exact rfl) | ((with_reducible first | apply pr_peql | apply pr_pneq | apply pr_fieldAddr_at2) <;> exact rfl) | ((with_reducible first | apply pr_streq | apply pr_strne | apply pr_fieldAddr_at) <;> exact rfl) | ((with_reducible first | apply pr_add | apply pr_sub | apply pr_mul); exact rfl; exact rfl; (first | exact IntWalk.i64_in _ (by omega) | exact IntWalk.u64_in _ (by omega) | exact IntWalk.u8_in _ (by omega) | exact IntWalk.u32_in _ (by omega) | exact IntKind.wrap_u64 _ | exact IntKind.wrap_i64 _ | exact IntKind.wrap_u32 _ | exact IntKind.wrap_u8 _)) | ((with_reducible apply pr_quo); exact rfl; exact rfl; omega; (first | exact IntWalk.i64_quo _ _ (by omega) | exact IntWalk.u64_quo _ _ (by omega))) | ((with_reducible apply pr_rem); exact rfl; exact rfl; omega; exact IntWalk.rem_in _ _ (by omega)) | ((with_reducible apply pr_conv); exact ⟨_, rfl⟩; exact rfl; exact rfl; (first | exact IntWalk.i64_in _ (by omega) | exact IntWalk.u64_in _ (by omega) | exact IntWalk.u8_in _ (by omega) | exact IntWalk.u32_in _ (by omega) | exact IntKind.wrap_u64 _ | exact IntKind.wrap_i64 _ | exact IntKind.wrap_u32 _ | exact IntKind.wrap_u8 _)) | ((with_reducible apply pr_load_blk1); exact rfl; exact rfl; exact (by repeat constructor); exact rfl) | ((with_reducible apply pr_load_blkN); exact rfl; exact rfl; exact rfl; exact (by repeat constructor); exact rfl) | ((with_reducible first | apply pr_aggeq2 | apply pr_aggne2); exact rfl; exact rfl; exact rfl; kernel_rfl; kernel_rfl; exact rfl) | ((with_reducible first | apply pr_strindexn | apply pr_str_ln | apply pr_str_hn); exact rfl; exact rfl; exact rfl; (first | omega | (simp only [lns] <;> omega))) | ((with_reducible apply pr_str_lhn); exact rfl; exact rfl; exact rfl; exact rfl; (first | omega | (simp only [lns] <;> omega)); (first | omega | (simp only [lns] <;> omega))) | ((with_reducible first | apply pr_strindex | apply pr_str_l | apply pr_str_h); exact rfl; exact rfl; exact rfl; (first | omega | (simp only [lns] <;> omega)); (first | omega | (simp only [lns] <;> omega))) | ((with_reducible apply pr_str_lh); exact rfl; exact rfl; exact rfl; exact rfl; (first | omega | (simp only [lns] <;> omega)); (first | omega | (simp only [lns] <;> omega)); (first | omega | (simp only [lns] <;> omega))) | ((with_reducible apply pr_stradd); exact rfl; exact rfl; (first | omega | (simp only [lns] <;> omega))) | ((with_reducible apply pr_neg); exact rfl; (first | exact IntWalk.i64_in _ (by omega) | exact IntWalk.u64_in _ (by omega) | exact IntWalk.u8_in _ (by omega) | exact IntWalk.u32_in _ (by omega) | exact IntKind.wrap_u64 _ | exact IntKind.wrap_i64 _ | exact IntKind.wrap_u32 _ | exact IntKind.wrap_u8 _)) | ((with_reducible apply pr_shrv); exact rfl; exact rfl; (first | omega | (simp only [IntKind.bits] <;> omega)); (first | omega | (simp only [IntKind.bits] <;> omega)); ((try simp only [Int.reduceToNat, Int.reducePow, Nat.reducePow]); exact rfl)) | ((with_reducible apply pr_shlv); exact rfl; exact rfl; (first | omega | (simp only [IntKind.bits] <;> omega)); (first | omega | (simp only [IntKind.bits] <;> omega)); ((try simp only [Int.reduceToNat, Int.reducePow]); (first | exact IntWalk.i64_in _ (by omega) | exact IntWalk.u64_in _ (by omega) | exact IntWalk.u8_in _ (by omega) | exact IntWalk.u32_in _ (by omega) | exact IntKind.wrap_u64 _ | exact IntKind.wrap_i64 _ | exact IntKind.wrap_u32 _ | exact IntKind.wrap_u8 _))) | fail) : PR P n F C op v := h
theorem zprO (h : PR P n F C op v := by first | ((with_reducible first | apply pr_move | apply pr_assign | apply pr_extract | apply pr_nilCheck | apply pr_lss | apply pr_leq | apply pr_gtr | apply pr_geq | apply pr_eql | apply pr_neq | apply pr_not | apply pr_pick_t | apply pr_len_sl | apply pr_fieldAddr0 | apply pr_build | apply pr_field1 | apply pr_makeFunc | apply pr_and | apply pr_or | apply pr_xor | apply pr_andnot | apply pr_minI | apply pr_maxI) <;> exact rfl) | ((with_reducible first | apply pr_pick_f | apply pr_beql | apply pr_bneq | apply pr_len_str | apply pr_fieldAddrL | apply pr_fieldN) <;> exact rfl) | ((with_reducible first | apply pr_peql | apply pr_pneq | apply pr_fieldAddr_at2) <;> exact rfl) | ((with_reducible first | apply pr_streq | apply pr_strne | apply pr_fieldAddr_at) <;> exact rfl) | ((with_reducible first | apply pr_add | apply pr_sub | apply pr_mul); exact rfl; exact rfl; (first | exact IntWalk.i64_in _ (by omega) | exact IntWalk.u64_in _ (by omega) | exact IntWalk.u8_in _ (by omega) | exact IntWalk.u32_in _ (by omega) | exact IntKind.wrap_u64 _ | exact IntKind.wrap_i64 _ | exact IntKind.wrap_u32 _ | exact IntKind.wrap_u8 _)) | ((with_reducible apply pr_quo); exact rfl; exact rfl; omega; (first | exact IntWalk.i64_quo _ _ (by omega) | exact IntWalk.u64_quo _ _ (by omega))) | ((with_reducible apply pr_rem); exact rfl; exact rfl; omega; exact IntWalk.rem_in _ _ (by omega)) | ((with_reducible apply pr_conv); exact ⟨_, rfl⟩; exact rfl; exact rfl; (first | exact IntWalk.i64_in _ (by omega) | exact IntWalk.u64_in _ (by omega) | exact IntWalk.u8_in _ (by omega) | exact IntWalk.u32_in _ (by omega) | exact IntKind.wrap_u64 _ | exact IntKind.wrap_i64 _ | exact IntKind.wrap_u32 _ | exact IntKind.wrap_u8 _)) | ((with_reducible apply pr_load_blk1); exact rfl; exact rfl; exact (by repeat constructor); exact rfl) | ((with_reducible apply pr_load_blkN); exact rfl; exact rfl; exact rfl; exact (by repeat constructor); exact rfl) | exact pr_index_own zrf zrf (by repeat constructor) inferInstance zrf zrf zlq zom | exact pr_load_own1 zrf (by repeat constructor) inferInstance zom zrf zrf | exact pr_load_ownN zrf (by repeat constructor) inferInstance zom zrf zrf zrf | exact pr_load_ownf zrf (by repeat constructor) inferInstance zom zrf zrf zrf | exact pr_load_ownfN zrf (by repeat constructor) inferInstance zom zrf zrf zrf zrf | exact pr_index_owni zrf zrf (by repeat constructor) inferInstance zrf zrf zlq zom zom | exact pr_slice_gl zrf zrf (own_le (by repeat constructor)) zrf zrf zom | exact pr_slice_gh zrf zrf (own_le (by repeat constructor)) zrf zrf zom | exact pr_slice_glh zrf zrf zrf (own_le (by repeat constructor)) zrf zrf zom zom | exact pr_slice_gli zrf zrf (own_le (by repeat constructor)) zrf zrf zom zom | exact pr_slice_ghi zrf zrf (own_le (by repeat constructor)) zrf zrf zom zom | exact pr_slice_glhi zrf zrf zrf (own_le (by repeat constructor)) zrf zrf zom zom zom | ((with_reducible first | apply pr_aggeq2 | apply pr_aggne2); exact rfl; exact rfl; exact rfl; kernel_rfl; kernel_rfl; exact rfl) | ((with_reducible first | apply pr_strindexn | apply pr_str_ln | apply pr_str_hn); exact rfl; exact rfl; exact rfl; (first | omega | (simp only [lns] <;> omega))) | ((with_reducible apply pr_str_lhn); exact rfl; exact rfl; exact rfl; exact rfl; (first | omega | (simp only [lns] <;> omega)); (first | omega | (simp only [lns] <;> omega))) | ((with_reducible first | apply pr_strindex | apply pr_str_l | apply pr_str_h); exact rfl; exact rfl; exact rfl; (first | omega | (simp only [lns] <;> omega)); (first | omega | (simp only [lns] <;> omega))) | ((with_reducible apply pr_str_lh); exact rfl; exact rfl; exact rfl; exact rfl; (first | omega | (simp only [lns] <;> omega)); (first | omega | (simp only [lns] <;> omega)); (first | omega | (simp only [lns] <;> omega))) | ((with_reducible apply pr_stradd); exact rfl; exact rfl; (first | omega | (simp only [lns] <;> omega))) | ((with_reducible apply pr_neg); exact rfl; (first | exact IntWalk.i64_in _ (by omega) | exact IntWalk.u64_in _ (by omega) | exact IntWalk.u8_in _ (by omega) | exact IntWalk.u32_in _ (by omega) | exact IntKind.wrap_u64 _ | exact IntKind.wrap_i64 _ | exact IntKind.wrap_u32 _ | exact IntKind.wrap_u8 _)) | ((with_reducible apply pr_shrv); exact rfl; exact rfl; (first | omega | (simp only [IntKind.bits] <;> omega)); (first | omega | (simp only [IntKind.bits] <;> omega)); ((try simp only [Int.reduceToNat, Int.reducePow, Nat.reducePow]); exact rfl)) | ((with_reducible apply pr_shlv); exact rfl; exact rfl; (first | omega | (simp only [IntKind.bits] <;> omega)); (first | omega | (simp only [IntKind.bits] <;> omega)); ((try simp only [Int.reduceToNat, Int.reducePow]); (first | exact IntWalk.i64_in _ (by omega) | exact IntWalk.u64_in _ (by omega) | exact IntWalk.u8_in _ (by omega) | exact IntWalk.u32_in _ (by omega) | exact IntKind.wrap_u64 _ | exact IntKind.wrap_i64 _ | exact IntKind.wrap_u32 _ | exact IntKind.wrap_u8 _))) | exact pr_bytes_str zrf zrf zrf zrf zrdb zlq | fail) : PR P n F C op v := h
theorem zprM (h : PR P n F C op v := by first | ((with_reducible first | apply pr_move | apply pr_assign | apply pr_extract | apply pr_nilCheck | apply pr_lss | apply pr_leq | apply pr_gtr | apply pr_geq | apply pr_eql | apply pr_neq | apply pr_not | apply pr_pick_t | apply pr_len_sl | apply pr_fieldAddr0 | apply pr_build | apply pr_field1 | apply pr_makeFunc | apply pr_and | apply pr_or | apply pr_xor | apply pr_andnot | apply pr_minI | apply pr_maxI) <;> exact rfl) | ((with_reducible first | apply pr_pick_f | apply pr_beql | apply pr_bneq | apply pr_len_str | apply pr_fieldAddrL | apply pr_fieldN) <;> exact rfl) | ((with_reducible first | apply pr_peql | apply pr_pneq | apply pr_fieldAddr_at2) <;> exact rfl) | ((with_reducible first | apply pr_streq | apply pr_strne | apply pr_fieldAddr_at) <;> exact rfl) | ((with_reducible first | apply pr_add | apply pr_sub | apply pr_mul); exact rfl; exact rfl; (first | exact IntWalk.i64_in _ (by omega) | exact IntWalk.u64_in _ (by omega) | exact IntWalk.u8_in _ (by omega) | exact IntWalk.u32_in _ (by omega) | exact IntKind.wrap_u64 _ | exact IntKind.wrap_i64 _ | exact IntKind.wrap_u32 _ | exact IntKind.wrap_u8 _)) | ((with_reducible apply pr_quo); exact rfl; exact rfl; omega; (first | exact IntWalk.i64_quo _ _ (by omega) | exact IntWalk.u64_quo _ _ (by omega))) | ((with_reducible apply pr_rem); exact rfl; exact rfl; omega; exact IntWalk.rem_in _ _ (by omega)) | ((with_reducible apply pr_conv); exact ⟨_, rfl⟩; exact rfl; exact rfl; (first | exact IntWalk.i64_in _ (by omega) | exact IntWalk.u64_in _ (by omega) | exact IntWalk.u8_in _ (by omega) | exact IntWalk.u32_in _ (by omega) | exact IntKind.wrap_u64 _ | exact IntKind.wrap_i64 _ | exact IntKind.wrap_u32 _ | exact IntKind.wrap_u8 _)) | ((with_reducible apply pr_load_blk1); exact rfl; exact rfl; exact (by repeat constructor); exact rfl) | ((with_reducible apply pr_load_blkN); exact rfl; exact rfl; exact rfl; exact (by repeat constructor); exact rfl) | exact pr_index_mem zrf zrf zsla zrf zrf zlq zom | exact pr_index_memi zrf zrf zsla zrf zrf zlq zom zom | exact pr_load_meme1 zrf zsla zom zrf zrf | exact pr_load_memeN zrf zsla zom zrf zrf zrf | exact pr_load_memef zrf zsla zom zrf zrf zrf | exact pr_load_memefN zrf zsla zom zrf zrf zrf zrf | exact pr_slice_gl zrf zrf (mem_le zsla) zrf zrf zom | exact pr_slice_gh zrf zrf (mem_le zsla) zrf zrf zom | exact pr_slice_glh zrf zrf zrf (mem_le zsla) zrf zrf zom zom | exact pr_slice_gli zrf zrf (mem_le zsla) zrf zrf zom zom | exact pr_slice_ghi zrf zrf (mem_le zsla) zrf zrf zom zom | exact pr_slice_glhi zrf zrf zrf (mem_le zsla) zrf zrf zom zom zom | ((with_reducible first | apply pr_aggeq2 | apply pr_aggne2); exact rfl; exact rfl; exact rfl; kernel_rfl; kernel_rfl; exact rfl) | ((with_reducible first | apply pr_strindexn | apply pr_str_ln | apply pr_str_hn); exact rfl; exact rfl; exact rfl; (first | omega | (simp only [lns] <;> omega))) | ((with_reducible apply pr_str_lhn); exact rfl; exact rfl; exact rfl; exact rfl; (first | omega | (simp only [lns] <;> omega)); (first | omega | (simp only [lns] <;> omega))) | ((with_reducible first | apply pr_strindex | apply pr_str_l | apply pr_str_h); exact rfl; exact rfl; exact rfl; (first | omega | (simp only [lns] <;> omega)); (first | omega | (simp only [lns] <;> omega))) | ((with_reducible apply pr_str_lh); exact rfl; exact rfl; exact rfl; exact rfl; (first | omega | (simp only [lns] <;> omega)); (first | omega | (simp only [lns] <;> omega)); (first | omega | (simp only [lns] <;> omega))) | ((with_reducible apply pr_stradd); exact rfl; exact rfl; (first | omega | (simp only [lns] <;> omega))) | ((with_reducible apply pr_neg); exact rfl; (first | exact IntWalk.i64_in _ (by omega) | exact IntWalk.u64_in _ (by omega) | exact IntWalk.u8_in _ (by omega) | exact IntWalk.u32_in _ (by omega) | exact IntKind.wrap_u64 _ | exact IntKind.wrap_i64 _ | exact IntKind.wrap_u32 _ | exact IntKind.wrap_u8 _)) | ((with_reducible apply pr_shrv); exact rfl; exact rfl; (first | omega | (simp only [IntKind.bits] <;> omega)); (first | omega | (simp only [IntKind.bits] <;> omega)); ((try simp only [Int.reduceToNat, Int.reducePow, Nat.reducePow]); exact rfl)) | ((with_reducible apply pr_shlv); exact rfl; exact rfl; (first | omega | (simp only [IntKind.bits] <;> omega)); (first | omega | (simp only [IntKind.bits] <;> omega)); ((try simp only [Int.reduceToNat, Int.reducePow]); (first | exact IntWalk.i64_in _ (by omega) | exact IntWalk.u64_in _ (by omega) | exact IntWalk.u8_in _ (by omega) | exact IntWalk.u32_in _ (by omega) | exact IntKind.wrap_u64 _ | exact IntKind.wrap_i64 _ | exact IntKind.wrap_u32 _ | exact IntKind.wrap_u8 _))) | exact pr_bytes_str zrf zrf zrf zrf zrdb zlq | fail) : PR P n F C op v := h
theorem zprOM (h : PR P n F C op v := by first | ((with_reducible first | apply pr_move | apply pr_assign | apply pr_extract | apply pr_nilCheck | apply pr_lss | apply pr_leq | apply pr_gtr | apply pr_geq | apply pr_eql | apply pr_neq | apply pr_not | apply pr_pick_t | apply pr_len_sl | apply pr_fieldAddr0 | apply pr_build | apply pr_field1 | apply pr_makeFunc | apply pr_and | apply pr_or | apply pr_xor | apply pr_andnot | apply pr_minI | apply pr_maxI) <;> exact rfl) | ((with_reducible first | apply pr_pick_f | apply pr_beql | apply pr_bneq | apply pr_len_str | apply pr_fieldAddrL | apply pr_fieldN) <;> exact rfl) | ((with_reducible first | apply pr_peql | apply pr_pneq | apply pr_fieldAddr_at2) <;> exact rfl) | ((with_reducible first | apply pr_streq | apply pr_strne | apply pr_fieldAddr_at) <;> exact rfl) | ((with_reducible first | apply pr_add | apply pr_sub | apply pr_mul); exact rfl; exact rfl; (first | exact IntWalk.i64_in _ (by omega) | exact IntWalk.u64_in _ (by omega) | exact IntWalk.u8_in _ (by omega) | exact IntWalk.u32_in _ (by omega) | exact IntKind.wrap_u64 _ | exact IntKind.wrap_i64 _ | exact IntKind.wrap_u32 _ | exact IntKind.wrap_u8 _)) | ((with_reducible apply pr_quo); exact rfl; exact rfl; omega; (first | exact IntWalk.i64_quo _ _ (by omega) | exact IntWalk.u64_quo _ _ (by omega))) | ((with_reducible apply pr_rem); exact rfl; exact rfl; omega; exact IntWalk.rem_in _ _ (by omega)) | ((with_reducible apply pr_conv); exact ⟨_, rfl⟩; exact rfl; exact rfl; (first | exact IntWalk.i64_in _ (by omega) | exact IntWalk.u64_in _ (by omega) | exact IntWalk.u8_in _ (by omega) | exact IntWalk.u32_in _ (by omega) | exact IntKind.wrap_u64 _ | exact IntKind.wrap_i64 _ | exact IntKind.wrap_u32 _ | exact IntKind.wrap_u8 _)) | ((with_reducible apply pr_load_blk1); exact rfl; exact rfl; exact (by repeat constructor); exact rfl) | ((with_reducible apply pr_load_blkN); exact rfl; exact rfl; exact rfl; exact (by repeat constructor); exact rfl) | exact pr_index_own zrf zrf (by repeat constructor) inferInstance zrf zrf zlq zom | exact pr_load_own1 zrf (by repeat constructor) inferInstance zom zrf zrf | exact pr_load_ownN zrf (by repeat constructor) inferInstance zom zrf zrf zrf | exact pr_load_ownf zrf (by repeat constructor) inferInstance zom zrf zrf zrf | exact pr_load_ownfN zrf (by repeat constructor) inferInstance zom zrf zrf zrf zrf | exact pr_index_owni zrf zrf (by repeat constructor) inferInstance zrf zrf zlq zom zom | exact pr_slice_gl zrf zrf (own_le (by repeat constructor)) zrf zrf zom | exact pr_slice_gh zrf zrf (own_le (by repeat constructor)) zrf zrf zom | exact pr_slice_glh zrf zrf zrf (own_le (by repeat constructor)) zrf zrf zom zom | exact pr_slice_gli zrf zrf (own_le (by repeat constructor)) zrf zrf zom zom | exact pr_slice_ghi zrf zrf (own_le (by repeat constructor)) zrf zrf zom zom | exact pr_slice_glhi zrf zrf zrf (own_le (by repeat constructor)) zrf zrf zom zom zom | exact pr_index_mem zrf zrf zsla zrf zrf zlq zom | exact pr_index_memi zrf zrf zsla zrf zrf zlq zom zom | exact pr_load_meme1 zrf zsla zom zrf zrf | exact pr_load_memeN zrf zsla zom zrf zrf zrf | exact pr_load_memef zrf zsla zom zrf zrf zrf | exact pr_load_memefN zrf zsla zom zrf zrf zrf zrf | exact pr_slice_gl zrf zrf (mem_le zsla) zrf zrf zom | exact pr_slice_gh zrf zrf (mem_le zsla) zrf zrf zom | exact pr_slice_glh zrf zrf zrf (mem_le zsla) zrf zrf zom zom | exact pr_slice_gli zrf zrf (mem_le zsla) zrf zrf zom zom | exact pr_slice_ghi zrf zrf (mem_le zsla) zrf zrf zom zom | exact pr_slice_glhi zrf zrf zrf (mem_le zsla) zrf zrf zom zom zom | ((with_reducible first | apply pr_aggeq2 | apply pr_aggne2); exact rfl; exact rfl; exact rfl; kernel_rfl; kernel_rfl; exact rfl) | ((with_reducible first | apply pr_strindexn | apply pr_str_ln | apply pr_str_hn); exact rfl; exact rfl; exact rfl; (first | omega | (simp only [lns] <;> omega))) | ((with_reducible apply pr_str_lhn); exact rfl; exact rfl; exact rfl; exact rfl; (first | omega | (simp only [lns] <;> omega)); (first | omega | (simp only [lns] <;> omega))) | ((with_reducible first | apply pr_strindex | apply pr_str_l | apply pr_str_h); exact rfl; exact rfl; exact rfl; (first | omega | (simp only [lns] <;> omega)); (first | omega | (simp only [lns] <;> omega))) | ((with_reducible apply pr_str_lh); exact rfl; exact rfl; exact rfl; exact rfl; (first | omega | (simp only [lns] <;> omega)); (first | omega | (simp only [lns] <;> omega)); (first | omega | (simp only [lns] <;> omega))) | ((with_reducible apply pr_stradd); exact rfl; exact rfl; (first | omega | (simp only [lns] <;> omega))) | ((with_reducible apply pr_neg); exact rfl; (first | exact IntWalk.i64_in _ (by omega) | exact IntWalk.u64_in _ (by omega) | exact IntWalk.u8_in _ (by omega) | exact IntWalk.u32_in _ (by omega) | exact IntKind.wrap_u64 _ | exact IntKind.wrap_i64 _ | exact IntKind.wrap_u32 _ | exact IntKind.wrap_u8 _)) | ((with_reducible apply pr_shrv); exact rfl; exact rfl; (first | omega | (simp only [IntKind.bits] <;> omega)); (first | omega | (simp only [IntKind.bits] <;> omega)); ((try simp only [Int.reduceToNat, Int.reducePow, Nat.reducePow]); exact rfl)) | ((with_reducible apply pr_shlv); exact rfl; exact rfl; (first | omega | (simp only [IntKind.bits] <;> omega)); (first | omega | (simp only [IntKind.bits] <;> omega)); ((try simp only [Int.reduceToNat, Int.reducePow]); (first | exact IntWalk.i64_in _ (by omega) | exact IntWalk.u64_in _ (by omega) | exact IntWalk.u8_in _ (by omega) | exact IntWalk.u32_in _ (by omega) | exact IntKind.wrap_u64 _ | exact IntKind.wrap_i64 _ | exact IntKind.wrap_u32 _ | exact IntKind.wrap_u8 _))) | exact pr_bytes_str zrf zrf zrf zrf zrdb zlq | fail) : PR P n F C op v := h
theorem zprA (h : PR P n F C op v := by first | exact pr_indexArr1 zrf zrf zrf zrf zom | exact pr_indexArr1i zrf zrf zrf zrf zom zom | exact pr_loadA zrf (by repeat constructor) zrf zrf zlq | exact pr_load_arr zrf (by repeat constructor) zrf zom | ((with_reducible first | apply pr_aggeq2 | apply pr_aggne2); exact rfl; exact rfl; exact rfl; kernel_rfl; kernel_rfl; exact rfl) | fail) : PR P n F C op v := h
end
/-- what is left, so that nothing takes it for a fact -/
structure Wr (G : Prop) : Prop where
  out : G
section
variable {G G' G1 G2 : Prop}
theorem zss (k : G') (h : Wr G' → G := by intro k; first | ((with_reducible first | apply At.seq | apply At.nil | apply At.then_n | apply At.then_e | apply At.then_r | apply At.inb_n | apply At.inb_r | apply At.inb_here | apply At.block | apply At.skip | apply At.exit | apply At.ret | apply At.scope | apply At.label | apply At.nog_n | apply At.nog_r | apply At.nog_e | apply At.fin_n | apply AtQ.nil | apply At.app0 | apply At.app1 | apply At.app2 | apply At.app3 | apply At.app4 | apply At.app5 | apply At.app6 | apply At.app7); exact k.1) | ((with_reducible first | apply At.inb_past | apply At.regionf); exact rfl; exact k.1) | ((with_reducible apply At.quiet); exact rfl; kernel_rfl; kernel_rfl; exact k.1) | ((with_reducible apply At.storeB); exact rfl; exact rfl; exact rfl; exact rfl; exact rfl; exact rfl; exact (by repeat constructor); exact rfl; exact k.1) | ((with_reducible first | apply AtQ.guard_y | apply At.guard_y); exact rfl; exact rfl; exact rfl; exact k.1) | ((with_reducible first | apply AtQ.guard_nt | apply At.guard_nt); exact rfl; exact rfl; exact rfl; exact k.1) | ((with_reducible first | apply AtQ.guard_nf | apply At.guard_nf); exact rfl; exact rfl; exact rfl; exact k.1) | ((with_reducible first | apply AtQ.guard_nu | apply At.guard_nu); exact rfl; exact rfl; exact rfl; exact k.1) | ((with_reducible first | apply At.cond_t | apply At.cond_f); exact rfl; exact k.1) | ((with_reducible apply At.cond_f); exact rfl; exact k.1) | fail) : G := h ⟨k⟩
theorem zsx (k : G') (h : Wr G' → G := by intro k; first | ((with_reducible apply At.back); exact zlf; exact zml; exact k.1) | ((with_reducible apply At.backX); exact k.1) | ((with_reducible first | apply AtM.qo | apply AtM.done); exact rfl; exact k.1) | ((with_reducible apply AtM.done); exact rfl; exact k.1) | ((with_reducible first | apply AtM.xo | apply AtM.lo); exact rfl; exact rfl; exact k.1) | ((with_reducible first | apply AtQ.guard_y | apply At.guard_y | apply AtM1.guard_y); exact rfl; exact rfl; exact rfl; exact k.1) | ((with_reducible first | apply AtQ.guard_nt | apply At.guard_nt | apply AtM1.guard_nt); exact rfl; exact rfl; exact rfl; exact k.1) | ((with_reducible first | apply AtQ.guard_nf | apply At.guard_nf | apply AtM1.guard_nf); exact rfl; exact rfl; exact rfl; exact k.1) | ((with_reducible first | apply AtQ.guard_nu | apply At.guard_nu | apply AtM1.guard_nu); exact rfl; exact rfl; exact rfl; exact k.1) | fail) : G := h ⟨k⟩
theorem zs0 (k : G') (h : Wr G' → G := by intro k; ((with_reducible first | apply At.val | apply AtQ.val); exact zpr0; exact rfl; exact k.1)) : G := h ⟨k⟩
theorem zsO (k : G') (h : Wr G' → G := by intro k; ((with_reducible first | apply At.val | apply AtQ.val); exact zprO; exact rfl; exact k.1)) : G := h ⟨k⟩
theorem zsM (k : G') (h : Wr G' → G := by intro k; ((with_reducible first | apply At.val | apply AtQ.val); exact zprM; exact rfl; exact k.1)) : G := h ⟨k⟩
theorem zsOM (k : G') (h : Wr G' → G := by intro k; ((with_reducible first | apply At.val | apply AtQ.val); exact zprOM; exact rfl; exact k.1)) : G := h ⟨k⟩
theorem zx0 (k : G') (h : Wr G' → G := by intro k; first | ((with_reducible first | apply AtM1.valz | apply AtM1.val); exact rfl; exact zpr0; exact rfl; exact k.1) | ((with_reducible apply AtM1.val); exact rfl; exact zpr0; exact rfl; exact k.1) | fail) : G := h ⟨k⟩
theorem zxO (k : G') (h : Wr G' → G := by intro k; first | ((with_reducible first | apply AtM1.valz | apply AtM1.val); exact rfl; exact zprO; exact rfl; exact k.1) | ((with_reducible apply AtM1.val); exact rfl; exact zprO; exact rfl; exact k.1) | fail) : G := h ⟨k⟩
theorem zxM (k : G') (h : Wr G' → G := by intro k; first | ((with_reducible first | apply AtM1.valz | apply AtM1.val); exact rfl; exact zprM; exact rfl; exact k.1) | ((with_reducible apply AtM1.val); exact rfl; exact zprM; exact rfl; exact k.1) | fail) : G := h ⟨k⟩
theorem zxOM (k : G') (h : Wr G' → G := by intro k; first | ((with_reducible first | apply AtM1.valz | apply AtM1.val); exact rfl; exact zprOM; exact rfl; exact k.1) | ((with_reducible apply AtM1.val); exact rfl; exact zprOM; exact rfl; exact k.1) | fail) : G := h ⟨k⟩
theorem zsp (k1 : G1) (k2 : G2) (h : G1 → G2 → G := by intro k1 k2; first | ((with_reducible apply At.cond); exact rfl; exact k1; exact k2) | ((with_reducible first | apply At.guard_s | apply AtQ.guard_s | apply AtM1.guard_s); exact rfl; exact rfl; exact k1; exact k2) | fail) : G := h k1 k2
end
section
variable {P : Program} {n : Nat} {w0 : World} {F : Fr} {m : Mem} {Rs : List Res} {Q : Exit → Act → World → Prop} {K : Act → World → Prop}
theorem At.c1 {d : Nat} {ops : Array Oper} {rest : List Oper} {g : FuncId} {xs : List Operand} {ts : Array TypeId} {ty : TypeId} {pos : String} {aft : Array Edge} {vs : List Value} {A Rest : List Res} {R : Value → Mem → List Res → Prop}
    (hx : evs F xs = some vs) (hd : Nat.blt d n = true) (hc : Ct P g vs.toArray m A R) (hA : Take A Rs Rest) (hg : goFn P g = true)
    (h : ∀ v m' B, m.le m' → R v m' B → At n w0 ((d, v) :: F) m' (B ++ Rest) (wpList P ops Q rest)) :
    At n w0 F m Rs (wpList P ops Q (⟨some d, .call ⟨.value (.func g), xs.toArray, ts⟩, ty, pos, aft, none⟩ :: rest)) := At.callt1 hg hx hd hc hA h
theorem At.c0 {ops : Array Oper} {rest : List Oper} {g : FuncId} {xs : List Operand} {ts : Array TypeId} {ty : TypeId} {pos : String} {aft : Array Edge} {vs : List Value} {A Rest : List Res} {R : Value → Mem → List Res → Prop}
    (hx : evs F xs = some vs) (hd : n = n) (hc : Ct P g vs.toArray m A R) (hA : Take A Rs Rest) (hg : goFn P g = true)
    (h : ∀ v m' B, m.le m' → R v m' B → At n w0 F m' (B ++ Rest) (wpList P ops Q rest)) :
    At n w0 F m Rs (wpList P ops Q (⟨none, .call ⟨.value (.func g), xs.toArray, ts⟩, ty, pos, aft, none⟩ :: rest)) := At.callt0 hg hx hc hA h
theorem At.cr {ops : Array Oper} {rest : List Oper} {d : Nat} {g : FuncId} {xs : List Operand} {ts : Array TypeId} {ty : TypeId} {pos : String} {aft : Array Edge} {vs : List Value} {V : Value} {A Y : List Res}
    (hx : evs F xs = some vs) (hd : Nat.blt d n = true) (hc : ∀ m', m.le m' → Rd P g vs.toArray m' A V) (hA : Take A Rs Y) (hg : goFn P g = true)
    (h : At n w0 ((d, V) :: F) m Rs (wpList P ops Q rest)) : At n w0 F m Rs (wpList P ops Q (⟨some d, .call ⟨.value (.func g), xs.toArray, ts⟩, ty, pos, aft, none⟩ :: rest)) := At.callr hg hx hd hc hA h
theorem AtQ.cr {ops : Array Oper} {rest : List Oper} {Qq : Act → Prop} {d : Nat} {g : FuncId} {xs : List Operand} {ts : Array TypeId} {ty : TypeId} {pos : String} {aft : Array Edge} {vs : List Value} {V : Value} {A Y : List Res}
    (hx : evs F xs = some vs) (hd : Nat.blt d n = true) (hc : ∀ m', m.le m' → Rd P g vs.toArray m' A V) (hA : Take A Rs Y) (hg : goFn P g = true)
    (h : AtQ P n ((d, V) :: F) (HW w0 m Rs) ops Qq rest) : AtQ P n F (HW w0 m Rs) ops Qq (⟨some d, .call ⟨.value (.func g), xs.toArray, ts⟩, ty, pos, aft, none⟩ :: rest) := AtQ.callr hg hx hd hc hA h
theorem AtM1.cr {X : List Res} {l : List Oper} {f : Nat} {s : Array Bool} {p : Plan} {d : Nat} {g : FuncId} {xs : List Operand} {ts : Array TypeId} {ty : TypeId} {pos : String} {aft : Array Edge} {vs : List Value} {V : Value} {A Y : List Res}
    (hx : evs F xs = some vs) (hd : Nat.blt d n = true) (hc : ∀ m', m.le m' → Rd P g vs.toArray m' A V) (hA : Take A Rs Y) (hg : goFn P g = true)
    (h : AtM P n w0 ((d, V) :: F) m Rs X K l f s p) : AtM1 P n w0 F m Rs X K l f s p ⟨some d, .call ⟨.value (.func g), xs.toArray, ts⟩, ty, pos, aft, none⟩ := AtM1.callr hg hx hd hc hA h
theorem At.apW {α : Type} [Inhabited α] {f : α → List Value} {sz : Nat} {E : TypeId} {p : Option Addr} {c : Nat} {l : List α} {Rs' : List Res} {ops : Array Oper} {rest : List Oper} {d : Nat} {x y : Operand} {t tx e2 : TypeId} {ty : TypeId} {pos : String} {aft : Array Edge} {ln : Nat} {p2 : Option Addr} {ln2 c2 : Nat} {l2 : List α}
    (hx : ev F x = some (.slice p ln c)) (hy : ev F y = some (.slice p2 ln2 c2)) (hp : Pick Rs (.own f sz E p c l) Rs') (hf : Fl f sz) (h2 : Rdb (HW w0 m Rs) f sz p2 c2 l2 ∧ ln2 = l2.length) (ht : P.underlying t = some (.slice E)) (ht2 : P.underlying tx = some (.slice e2)) (he : elemB P E sz = true)
    (hln : ln = l.length) (hsm : l.length + l2.length ≤ 34359738368) (hd : Nat.blt d n = true)
    (h : ∀ p' c', At n w0 ((d, .slice p' (l ++ l2).length c') :: F) m (.own f sz E p' c' (l ++ l2) :: Rs') (wpList P ops Q rest)) :
    At n w0 F m Rs (wpList P ops Q (⟨some d, .call ⟨.builtin .append, #[x, y], #[t, tx]⟩, ty, pos, aft, none⟩ :: rest)) := At.appendW hx hy hp hf h2.1 h2.2 ht ht2 he hln hsm hd h
theorem zrdl {α : Type} [Inhabited α] {f : α → List Value} {sz : Nat} {C : World → Prop} {p2 : Option Addr} {c2 ln2 : Nat} {l2 : List α} (h : Rdb C f sz p2 c2 l2 ∧ ln2 = l2.length := by first | exact ⟨own_rdb inferInstance (by repeat constructor), zlq⟩ | exact ⟨Sl.rdb zsla, zlq⟩ | exact ⟨Rdb.sub (own_rdb inferInstance (by repeat constructor)) _ _ zom zom, zlq⟩ | exact ⟨Rdb.sub (Sl.rdb zsla) _ _ zom zom, zlq⟩ | exact ⟨Rdb.subl (own_rdb inferInstance (by repeat constructor)) _ zom, zlq⟩ | exact ⟨Rdb.subl (Sl.rdb zsla) _ zom, zlq⟩ | exact ⟨Rdb.subh (own_rdb inferInstance (by repeat constructor)) _ zom, zlq⟩ | exact ⟨Rdb.subh (Sl.rdb zsla) _ zom, zlq⟩ | fail) : Rdb C f sz p2 c2 l2 ∧ ln2 = l2.length := h
end
end Go.J
set_option maxHeartbeats 4000000
namespace Go.Proofs.Ytijgnbedilipdaa
open Go Go.J
attribute [local irreducible] At AtQ AtM AtM1 PR Ct Pu Rd Res.blk Res.own Res.ex RVs RV
namespace Ls
abbrev fI : Int → List Value := fun x => [.int .i64 x]
instance : Fl fI 1 := ⟨fun _ => rfl, fun _ v h => by simp at h; subst h; rfl, by decide⟩
abbrev fS : List UInt8 → List Value := fun x => [.string (str x)]
instance : Fl fS 1 := ⟨fun _ => rfl, fun _ v h => by simp at h; subst h; rfl, by decide⟩
abbrev fO : Bool → List Value := fun x => [.bool x]
instance : Fl fO 1 := ⟨fun _ => rfl, fun _ v h => by simp at h; subst h; rfl, by decide⟩
abbrev fH : Nat → List Value := fun x => [.int .u16 (x : Int)]
instance : Fl fH 1 := ⟨fun _ => rfl, fun _ v h => by simp at h; subst h; rfl, by decide⟩
/-- a slice that stands in a slice -/
structure SX (α : Type) where
  (l : List α) (p : Option Addr) (c : Nat)
instance {α : Type} : Inhabited (SX α) := ⟨⟨[], none, 0⟩⟩
abbrev fX {α : Type} : SX α → List Value := fun x => [.slice x.p x.l.length x.c]
instance {α : Type} : Fl (fX (α := α)) 1 := ⟨fun _ => rfl, fun _ v h => by simp at h; subst h; rfl, by decide⟩
theorem ext! {α : Type} [Inhabited α] {a b : List α} (hl : a.length = b.length) (h : ∀ i, i < a.length → a[i]! = b[i]!) : a = b :=
  List.ext_getElem hl fun i h1 h2 => by have := h i h1; rwa [getElem!_pos a i h1, getElem!_pos b i h2] at this
theorem take_snoc {α : Type} [Inhabited α] {l : List α} {i : Nat} (h : i < l.length) : l.take (i + 1) = l.take i ++ [l[i]!] := by
  rw [getElem!_pos l i h, List.take_succ_eq_append_getElem h]
theorem drop_cons {α : Type} [Inhabited α] {l : List α} {i : Nat} (h : i < l.length) : l.drop i = l[i]! :: l.drop (i + 1) := by
  rw [getElem!_pos l i h, List.drop_eq_getElem_cons h]
theorem mem! {α : Type} [Inhabited α] {l : List α} {i : Nat} (h : i < l.length) : l[i]! ∈ l := by
  rw [getElem!_pos l i h]; exact List.getElem_mem h
theorem clipSl {m : Mem} {α : Type} [Inhabited α] {f : α → List Value} {sz : Nat} {p : Option Addr} {c : Nat} {l : List α} (h : Sl m f sz p c l) : Sl m f sz p l.length l := by
  have hle := h.le
  refine ⟨h.fl, Nat.le_refl _, Nat.le_trans hle h.big, fun e => by have := h.nil e; omega, fun a ha h0 => ?_⟩
  obtain ⟨h1, E, cs, fz, h2, h3, h4⟩ := h.some a ha (by omega)
  exact ⟨h1, E, cs, fz, h2, Nat.le_trans (Nat.add_le_add_left (Nat.mul_le_mul_right _ hle) _) h3, h4⟩
end Ls
end Go.Proofs.Ytijgnbedilipdaa
namespace Go.Proofs.Ytijgnbedilipdaa
open Go Go.J
/-- a sector that is to be another one -/
structure Chg where
  (s : Int) (t : List UInt8)
namespace Dk
abbrev fC : Chg → List Value := fun x => [.int .i64 x.s, .string (str x.t)]
instance : Inhabited Chg := ⟨⟨0, []⟩⟩
instance : Fl fC 2 := ⟨fun _ => rfl, fun _ v h => by simp at h; rcases h with rfl | rfl <;> rfl, by decide⟩
abbrev cv (x : Chg) : Value := .agg (fC x).toArray
structure Dsk where
  (safe : List (List UInt8)) (pend : List Chg) (arm : Int) (down : Bool)
def has (D : Dsk) (i : Int) : Prop := 0 ≤ i ∧ i < (D.safe.length : Int)
instance (D : Dsk) (i : Int) : Decidable (has D i) := by unfold has; infer_instance
/-- a step, at which it may go down -/
def stp (D : Dsk) : Dsk × Int := if D.down = true then (D, 14) else if D.arm = 1 then (⟨D.safe, D.pend, 0, true⟩, 14) else if 1 < D.arm then (⟨D.safe, D.pend, D.arm - 1, false⟩, 0) else (⟨D.safe, D.pend, D.arm, false⟩, 0)
def wr (D : Dsk) (x : Chg) : Dsk × Int :=
  if ¬ has D x.s ∨ x.t.length ≠ 512 then (D, 1) else if (stp D).2 = 0 then (⟨(stp D).1.safe, (stp D).1.pend ++ [x], (stp D).1.arm, (stp D).1.down⟩, 0) else stp D
def put (S : List (List UInt8)) (x : Chg) : List (List UInt8) := S.set x.s.toNat x.t
/-- those writes that are kept are safe -/
def kpS (S : List (List UInt8)) (l : List Chg) (q : Nat → Bool) : Nat → List (List UInt8)
  | 0 => S
  | n + 1 => if q n = true then put (kpS S l q n) l[n]! else kpS S l q n
def kp (D : Dsk) (q : Nat → Bool) : Dsk := ⟨kpS D.safe D.pend q D.pend.length, [], D.arm, D.down⟩
def syn (D : Dsk) : Dsk × Int := if (stp D).2 = 0 then (kp (stp D).1 (fun _ => true), 0) else stp D
/-- its writes are such as may be -/
def ok (D : Dsk) : Prop := ∀ x ∈ D.pend, has D x.s ∧ x.t.length = 512
theorem put_len (S : List (List UInt8)) (x : Chg) : (put S x).length = S.length := List.length_set ..
theorem kpS_len (S : List (List UInt8)) (l : List Chg) (q : Nat → Bool) : ∀ n, (kpS S l q n).length = S.length
  | 0 => rfl
  | n + 1 => by
    unfold kpS
    split
    · rw [put_len, kpS_len S l q n]
    · exact kpS_len S l q n
theorem stp_safe (D : Dsk) : (stp D).1.safe = D.safe ∧ (stp D).1.pend = D.pend := by
  unfold stp
  split
  · exact ⟨rfl, rfl⟩
  split
  · exact ⟨rfl, rfl⟩
  split <;> exact ⟨rfl, rfl⟩
theorem stp_cases (D : Dsk) : ((stp D).2 = 0 ∧ D.down = false) ∨ ((stp D).2 = 14 ∧ (stp D).1.down = true) := by
  unfold stp
  cases hd : D.down
  · rw [if_neg (by decide)]
    split
    · exact .inr ⟨rfl, rfl⟩
    split
    · exact .inl ⟨rfl, rfl⟩
    · exact .inl ⟨rfl, rfl⟩
  · rw [if_pos rfl]; exact .inr ⟨rfl, hd⟩
end Dk
end Go.Proofs.Ytijgnbedilipdaa
namespace Go.J
open Go
/-- the bytes of a text, that may be written -/
def Res.byt (E : TypeId) (p : Option Addr) (c : Nat) (L : List Int) : Res where
  p w s := ∃ g cur, p = some ⟨g, 0, none⟩ ∧ w.heap[g]? = some (.cells cur E (cur.size, cur.size + 1)) ∧ L.length ≤ c ∧ c ≤ maxLen ∧ c ≤ cur.size ∧ (∀ j, j < L.length → cur[j]? = some (.int .u8 L[j]!)) ∧ ∀ k, s k ↔ k = g
  loc := fun {w w' s} h he => by
    obtain ⟨g, cur, h1, h2, h3, h4, h5, h6, h7⟩ := h
    exact ⟨g, cur, h1, by rw [he g ((h7 g).2 rfl)]; exact h2, h3, h4, h5, h6, h7⟩
  dom := fun {w s k} h hk => by
    obtain ⟨g, cur, h1, h2, h3, h4, h5, h6, h7⟩ := h
    rw [(h7 k).1 hk]; exact (Array.getElem?_eq_some_iff.1 h2).1
section
variable {P : Program} {n : Nat} {w0 : World} {F : Fr} {m : Mem} {Rs Rs' : List Res} {Q : Exit → Act → World → Prop} {K : Act → World → Prop} {E : TypeId} {p : Option Addr} {c : Nat} {L : List Int}
theorem byt_rdb (hp : Pick Rs (.byt E p c L) Rs') : Rdb (HW w0 m Rs) fb 1 p c L := by
  refine ⟨inferInstance, fun w hw hl => ?_, fun w hw => ?_, fun w hw i j hi hj => ?_⟩
  · obtain ⟨_, g, cur, h1, _⟩ := hw.get hp
    exact ⟨g, 0, h1⟩
  · obtain ⟨_, g, cur, h1, h2, h3, _⟩ := hw.get hp
    exact h3
  · obtain ⟨_, g, cur, h1, h2, h3, h4, h5, h6, h7⟩ := hw.get hp
    subst h1
    have hj0 : j = 0 := by omega
    subst hj0
    show w.cell? ⟨g, 0 + (i * 1 + 0), none⟩ = _
    rw [World.cell_of h2, show 0 + (i * 1 + 0) = i by omega, h6 i hi]
    rfl
theorem At.byt_freeze (hp : Pick Rs (.byt E p c L) Rs') (h : ∀ m' : Mem, m.le m' → Sl m' fb 1 p c L → At n w0 F m' Rs' K) : At n w0 F m Rs K := fun a w ha hw => by
  obtain ⟨s, ⟨s1, s2, h1, h2, hd, he⟩, hm⟩ := (hw.ent (Ent.of_pick hp)).res
  obtain ⟨g, cur, rfl, h4, h5, h6, h7, h8, hg⟩ := h1
  have hmb : m g = none := hm g ((he g).2 (.inl ((hg g).2 rfl)))
  refine h (fun k => if k = g then some (.cells cur E (cur.size, cur.size + 1)) else m k) (fun k o hk => ?_) ⟨inferInstance, h5, h6, (fun e => by cases e), fun a' ha' _ => ?_⟩ a w ha
    ⟨hw.os, hw.tape, hw.output, hw.size, hw.dr, fun k o hk => ?_, s2, h2, fun k hk => ?_⟩
  · show (if k = g then _ else _) = _
    rw [if_neg (fun e => by subst e; rw [hmb] at hk; cases hk)]; exact hk
  · cases ha'
    refine ⟨rfl, E, cur, _, if_pos rfl, by show 0 + c * 1 ≤ _; omega, fun i j hi hj => ?_⟩
    have hj0 : j = 0 := by omega
    subst hj0
    show cur[0 + (i * 1 + 0)]? = _
    rw [show 0 + (i * 1 + 0) = i by omega, h8 i hi]
    rfl
  · by_cases e : k = g
    · subst e
      rw [if_pos rfl] at hk; cases hk; exact h4
    · rw [if_neg e] at hk; exact hw.mem k o hk
  · show (if k = g then _ else _) = _
    rw [if_neg (fun e => hd k ⟨(hg k).2 e, hk⟩)]
    exact hm k ((he k).2 (.inr hk))
theorem At.str_own {ops : Array Oper} {rest : List Oper} {d : Nat} {x : Operand} {s t e : TypeId} {ty : TypeId} {pos : String} {aft : Array Edge} {l : List UInt8}
    (hs : P.underlying s = some .string) (ht : P.underlying t = some (.slice e)) (he : P.underlying e = some (.int .u8)) (hx : ev F x = some (.string (str l))) (hl : l.length ≤ 34359738368) (hd : Nat.blt d n = true)
    (h : ∀ p c, At n w0 ((d, .slice p (l.map bI).length c) :: F) m (.byt e p c (l.map bI) :: Rs) (wpList P ops Q rest)) : At n w0 F m Rs (wpList P ops Q (⟨some d, .convert s t x, ty, pos, aft, none⟩ :: rest)) := fun a w ha hw =>
  wpList_plain rfl fun K hK => by
    have hrun := run_bytes_of_string (P := P) w s t e (str l) hs ht he
    have hge := grownCap_ge w (str l).size 0 e
    have hle := grownCap_le_maxLen w (str l).size 0 e (by rw [str_size]; simp only [maxLen]; omega)
    generalize grownCap w (str l).size 0 e = c at hrun hge hle
    rw [str_size] at hrun hge
    have hsize : (bytesRow (str l) c).size = c := by rw [bytesRow_str]; simp; omega
    unfold Oper.wp
    have hex : (execOp a.eval ⟨some d, .convert s t x, ty, pos, aft, none⟩).run P w = .ok (.value (.slice (some ⟨w.heap.size, 0, none⟩) l.length c)) (w.drew.alloc (.cells (bytesRow (str l) c) e ((bytesRow (str l) c).size, (bytesRow (str l) c).size + 1))) := by
      simp only [execOp, ha.ev hx, Sem.run_bind, hrun, Result.andThen]
      rfl
    rw [hex]
    refine hK _ _ (h (some ⟨w.heap.size, 0, none⟩) c _ _ (by rw [List.length_map]; exact ha.put hd) (hw.add rfl rfl rfl (by show w.heap.size ≤ (w.heap.push _).size; simp) (fun k hk => by show (w.heap.push _)[k]? = _; rw [Array.getElem?_push, if_neg (by omega)])
      ⟨fun k => k = w.heap.size, ⟨w.heap.size, bytesRow (str l) c, rfl, by show (w.heap.push _)[w.heap.size]? = _; simp, by simpa using hge, hle, by rw [hsize]; exact Nat.le_refl _, fun j hj => ?_, fun _ => Iff.rfl⟩, fun k hk => by omega⟩))
    have hj' : j < l.length := by simpa using hj
    rw [bytesRow_str, Array.getElem?_append_left (by simp; omega)]
    simp [hj']
theorem At.store_byt {ops : Array Oper} {rest : List Oper} {t : TypeId} {x y : Operand} {ty : TypeId} {pos : String} {aft : Array Edge} {k : Nat} {v : Int}
    (hx : ev F x = some (.pointer (some (at_ p (k * 1))))) (hy : ev F y = some (.int .u8 v)) (hp : Pick Rs (.byt E p c L) Rs') (hs : sizeB P t = some 1) (hk : k < L.length)
    (h : At n w0 F m (.byt E p c (L.set k v) :: Rs') (wpList P ops Q rest)) : At n w0 F m Rs (wpList P ops Q (⟨none, .store t x y, ty, pos, aft, none⟩ :: rest)) := fun a w ha hw =>
  wpList_plain rfl fun K hK => by
    have hrow : ∀ s, (Res.byt E p c L).p w s → ∃ w', (storeVar t (at_ p (k * 1)) (.int .u8 v)).run P w = .ok () w' ∧ (Res.byt E p c (L.set k v)).p w' s ∧ w'.os = w.os ∧ w'.tape = w.tape ∧ w'.output = w.output ∧ w.heap.size ≤ w'.heap.size ∧ (∀ k, k < w.heap.size → ¬ s k → w'.heap[k]? = w.heap[k]?) := fun s hown => by
      obtain ⟨g, cur, rfl, h4, h5, h6, h7, h8, hgs⟩ := hown
      have hkc : k < cur.size := by omega
      have e0 : at_ (some ⟨g, 0, none⟩) (k * 1) = ⟨g, k, none⟩ := by show (⟨g, 0 + k * 1, none⟩ : Addr) = _; congr 1; omega
      have hcell : w.cell? ⟨g, k, none⟩ = some cur[k] := by simp [World.cell?, h4, hkc]
      have hfro : w.frozen? ⟨g, k, none⟩ = false := by
        simp only [World.frozen?, h4, Bool.and_eq_false_iff, decide_eq_false_iff_not]
        left
        omega
      have hst : (storeVar t (at_ (some ⟨g, 0, none⟩) (k * 1)) (.int .u8 v)).run P w = .ok () (w.setRow g (cur.setIfInBounds k (.int .u8 v))) := by
        have hs1 : (_root_.Go.store (⟨g, k, none⟩ : Addr) (.int .u8 v)).run P w = .ok () (w.setRow g (cur.setIfInBounds k (.int .u8 v))) := by
          rw [run_store P w _ _ _ rfl, hcell]
          simp [hfro, setCell_eq_setRow w g k cur E _ (.int .u8 v) h4]
        have ha0 : (⟨g, k, none⟩ : Addr).add 0 = ⟨g, k, none⟩ := addr_add0 _
        rw [e0]
        simp only [storeVar, Sem.run_bind, run_sizeOf hs, Result.andThen]
        simp only [Value.cells, storeCells, Sem.run_bind, ha0, hs1, Result.andThen]
        rw [if_neg (show ¬ ((#[Value.int .u8 v] : Array Value).size ≠ 1) by simp)]
        simp only [Sem.run_bind, hs1, Result.andThen]
        rfl
      refine ⟨_, hst, ⟨g, cur.setIfInBounds k (.int .u8 v), rfl, by rw [Array.size_setIfInBounds]; exact setRow_heap w g cur _ E _ h4, by rw [List.length_set]; exact h5, h6, by rw [Array.size_setIfInBounds]; exact h7, fun j hj => ?_, hgs⟩, rfl, rfl, rfl, by simp, fun i _ hi => setRow_other w g i _ (fun e => hi ((hgs i).2 e))⟩
      rw [List.length_set] at hj
      by_cases e : j = k
      · subst e
        rw [Array.getElem?_setIfInBounds_self_of_lt hkc, List.getElem!_eq_getElem?_getD, List.getElem?_set_self hj]; rfl
      · rw [Array.getElem?_setIfInBounds_ne (Ne.symm e), h8 j hj, List.getElem!_eq_getElem?_getD, List.getElem!_eq_getElem?_getD, List.getElem?_set_ne (Ne.symm e)]
    obtain ⟨s0, hown⟩ := hw.get hp
    obtain ⟨w', hr', _⟩ := hrow s0 hown
    have hrun' : (execOp a.eval ⟨none, .store t x y, ty, pos, aft, none⟩).run P w = .ok .skip w' := by
      have e0 : (Pure.pure (at_ p (k * 1)) : Sem Addr).run P w = .ok (at_ p (k * 1)) w := rfl
      simp only [execOp, ha.ev hx, ha.ev hy, Instr.storeAt, Instr.sureAddr, Sem.run_bind, e0, Result.andThen, hr']
      rfl
    unfold Oper.wp
    rw [hrun']
    refine hK _ _ (h _ _ ha (hw.turn hp fun s hs => ?_))
    obtain ⟨w2, hr2, h2, g1, g2, g3, g4, g5⟩ := hrow s hs
    rw [hr'] at hr2
    injection hr2 with _ e2
    subst e2
    exact ⟨s, h2, g1, g2, g3, g4, g5, fun k hk => .inl hk⟩
theorem pr_index_byt {x y : Operand} {t : TypeId} {ln k : Nat} {ki : IntKind} (hx : ev F x = some (.slice p ln c)) (hy : ev F y = some (.int ki (k : Int))) (hp : Pick Rs (.byt E p c L) Rs')
    (ht : P.underlying t = some (.slice E)) (hs : sizeB P E = some 1) (hl : ln = L.length) (hk : k < L.length) : PR P n F (HW w0 m Rs) (.indexAddr t x y) (.pointer (some (at_ p (k * 1)))) :=
  pr_indexAddr (byt_rdb hp) ht hs hx hy hl hk
theorem pr_load_byt {x : Operand} {t : TypeId} {k : Nat} (hx : ev F x = some (.pointer (some (at_ p (k * 1))))) (hp : Pick Rs (.byt E p c L) Rs') (hk : k < L.length) (ht : isAggB P t = some false) : PR P n F (HW w0 m Rs) (.load t x) (.int .u8 L[k]!) :=
  pr_load_sl1 (byt_rdb hp) hk ht hx rfl
/-- an array that is a block, as a slice -/
theorem pr_slice_arr {C : World → Prop} {x : Operand} {t e : TypeId} {len b sz : Nat} (hx : ev F x = some (.pointer (some ⟨b, 0, none⟩))) (ht : P.underlying t = some (.array len e)) (hs : sizeB P e = some sz) :
    PR P n F C (.slice t x none none none) (.slice (some ⟨b, 0, none⟩) len len) := fun _ _ _ _ _ a w ha hC => by
  have hr : ∀ w, (underlying t).run P w = .ok (.array len e) w := fun w => by simp only [underlying, program, bind, Sem.bind, Sem.run, ht]; rfl
  have hb : (Instr.sliceBounds false len len none none none).run P w = .ok (0, len, len) w := by
    unfold Instr.sliceBounds Instr.sliceBound
    simp [pure, Sem.run, bind, Sem.bind]
  have e0 : (Pure.pure (⟨b, 0, none⟩ : Addr) : Sem Addr).run P w = .ok ⟨b, 0, none⟩ w := rfl
  have hz : (if len = 0 then (⟨b, 0, none⟩ : Addr) else (⟨b, 0, none⟩ : Addr).add (0 * sz)) = ⟨b, 0, none⟩ := by
    split
    · rfl
    · rw [Nat.zero_mul]; exact addr_add0 _
  simp only [execOp, ha.ev hx, Option.map_none, Sem.run_bind]
  unfold Instr.sliceAt
  simp only [Sem.run_bind, hr, Result.andThen, Instr.sureAddr, e0, hb, run_sizeOf hs, pure, Sem.run, hz, Nat.sub_zero]
/-- such a slice can be read -/
theorem blk_rdb {b c : Nat} {L : List Int} (hp : Pick Rs (.blk b E (L.map (fun x => Value.int .u8 x))) Rs') (hc : L.length = c) : Rdb (HW w0 m Rs) fb 1 (some ⟨b, 0, none⟩) c L := by
  refine ⟨inferInstance, fun w hw hl => ⟨b, 0, rfl⟩, fun w hw => by omega, fun w hw i j hi hj => ?_⟩
  have hj0 : j = 0 := by omega
  subst hj0
  have hb := hw.blk hp
  show w.cell? ⟨b, 0 + (i * 1 + 0), none⟩ = _
  rw [World.cell_of hb, show 0 + (i * 1 + 0) = i by omega]
  simp [hi, fb]
theorem Pu.ct {f : FuncId} {args : Array Value} {V : Value} (h : Pu P f args V) (m : Mem) : Ct P f args m [] (fun v m' B => v = V ∧ m = m' ∧ B = []) := (h m).mono fun _ _ _ _ ⟨a, b, c⟩ => ⟨a, b.symm, c⟩
end
end Go.J
namespace Go.Proofs.Ytijgnbedilipdaa
open Go Go.J
attribute [local irreducible] At AtQ AtM AtM1 PR Ct Pu Rd Res.blk Res.own Res.ex RVs RV
namespace Dk
abbrev ptr (b : Nat) : Value := .pointer (some ⟨b, 0, none⟩)
abbrev rr (b : Nat) (p : Option Addr) (c : Nat) (q : Option Addr) (d : Nat) (D : Dsk) : List Res := [.blk b 66 [.slice p D.safe.length c, .slice q D.pend.length d, .int .i64 D.arm, .bool D.down], .own Ls.fS 1 9 p c D.safe, .own fC 2 60 q d D.pend]
structure DS where
  (p : Option Addr) (c : Nat) (q : Option Addr) (d : Nat)
/-- a disk -/
def R (b : Nat) (D : Dsk) : Res := .ex (fun _ : DS => True) (fun s => rr b s.p s.c s.q s.d D)
theorem R.openR {m : Mem} {f : FuncId} {args : Array Value} {b : Nat} {D : Dsk} {V : Value} (h : ∀ s : DS, Rd Try.prog f args m (rr b s.p s.c s.q s.d D) V) : Rd Try.prog f args m [R b D] V :=
  Rd.openx fun s _ => by rw [List.append_nil]; exact h s
theorem R.open {m : Mem} {f : FuncId} {args : Array Value} {b : Nat} {D : Dsk} {A : List Res} {Q : Value → Mem → List Res → Prop} (h : ∀ s : DS, Ct Try.prog f args m (rr b s.p s.c s.q s.d D ++ A) Q) : Ct Try.prog f args m (R b D :: A) Q :=
  Ct.openx fun s _ => h s
theorem R.close {b : Nat} {D : Dsk} (p : Option Addr) (c : Nat) (q : Option Addr) (d : Nat) (Rest : List Res) : Ent (rr b p c q d D ++ Rest) (R b D :: Rest) := Ent.closex (A := fun s : DS => rr b s.p s.c s.q s.d D) ⟨p, c, q, d⟩ trivial
theorem len {m : Mem} (b : Nat) (D : Dsk) : Rd Try.prog 27 #[ptr b] m [R b D] (.int .i64 (D.safe.length : Int)) := R.openR fun s => by
  unfold Rd
  refine Ct.enterV (by rfl) Try.func27 rfl Try.ntmps27 rfl (fun w0 Rest => ?_)
  (repeat' (first | refine zss ?_ | refine zsO ?_ | (refine zsp ?_ ?_ <;> (intro hc; (try simp only [zhcs, reduceCtorEq] at hc); (try (exfalso; first | contradiction | omega | exact absurd rfl hc | exact absurd (by decide) hc))))))
  all_goals ((with_reducible apply At.retB1 (B := rr b s.p s.c s.q s.d D)); exact rfl; exact rfl; exact zml; exact zkp; exact ⟨rfl, rfl, rfl⟩)
theorem has0 {m : Mem} (b : Nat) (D : Dsk) (i : Int) (p : Option Addr) (c : Nat) (q : Option Addr) (d : Nat) : Rd Try.prog 63 #[ptr b, .int .i64 i] m (rr b p c q d D) (.bool (decide (has D i))) := by
  unfold Rd has
  refine Ct.enterV (by rfl) Try.func63 rfl Try.ntmps63 rfl (fun w0 Rest => ?_)
  (repeat' (first | refine zss ?_ | refine zsO ?_ | (refine zsp ?_ ?_ <;> (intro hc; (try simp only [zhcs, reduceCtorEq] at hc); (try (exfalso; first | omega | contradiction | omega | exact absurd rfl hc | exact absurd (by decide) hc))))))
  all_goals ((with_reducible apply At.retB1 (B := rr b p c q d D)); exact rfl; exact rfl; exact zml; exact zkp; exact ⟨congrArg Value.bool (by simp [hc]), rfl, rfl⟩)
theorem step0 {m : Mem} (b : Nat) (D : Dsk) (p : Option Addr) (c : Nat) (q : Option Addr) (d : Nat) (ha : D.arm ≤ 9223372036854775807) : Ct Try.prog 78 #[ptr b] m (rr b p c q d D) (fun v m' B => v = .int .i64 (stp D).2 ∧ m = m' ∧ B = rr b p c q d (stp D).1) := by
  obtain ⟨S, P, arm, down⟩ := D
  unfold stp
  dsimp only [rr] at ha ⊢
  cases down
  · rw [if_neg (by decide)]
    by_cases h1 : arm = 1
    · rw [if_pos h1]
      refine Ct.enterV (by rfl) Try.func78 rfl Try.ntmps78 rfl (fun w0 Rest => ?_)
      (repeat' (first | refine zss ?_ | refine zsO ?_ | (refine zsp ?_ ?_ <;> (intro hc; (try simp only [zhcs, reduceCtorEq] at hc); (try (exfalso; first | (first | omega | exact absurd h1 hc) | contradiction | omega | exact absurd rfl hc | exact absurd (by decide) hc))))))
      all_goals ((with_reducible apply At.retB1 (B := rr b p c q d ⟨S, P, 0, true⟩)); exact rfl; exact rfl; exact zml; exact zkp; exact ⟨rfl, rfl, rfl⟩)
    rw [if_neg h1]
    by_cases h2 : 1 < arm
    · rw [if_pos h2]
      refine Ct.enterV (by rfl) Try.func78 rfl Try.ntmps78 rfl (fun w0 Rest => ?_)
      (repeat' (first | refine zss ?_ | refine zsO ?_ | (refine zsp ?_ ?_ <;> (intro hc; (try simp only [zhcs, reduceCtorEq] at hc); (try (exfalso; first | (first | omega | exact absurd hc h1) | contradiction | omega | exact absurd rfl hc | exact absurd (by decide) hc))))))
      all_goals ((with_reducible apply At.retB1 (B := rr b p c q d ⟨S, P, arm - 1, false⟩)); exact rfl; exact rfl; exact zml; exact zkp; exact ⟨rfl, rfl, rfl⟩)
    · rw [if_neg h2]
      refine Ct.enterV (by rfl) Try.func78 rfl Try.ntmps78 rfl (fun w0 Rest => ?_)
      (repeat' (first | refine zss ?_ | refine zsO ?_ | (refine zsp ?_ ?_ <;> (intro hc; (try simp only [zhcs, reduceCtorEq] at hc); (try (exfalso; first | (first | omega | exact absurd hc h1) | contradiction | omega | exact absurd rfl hc | exact absurd (by decide) hc))))))
      all_goals ((with_reducible apply At.retB1 (B := rr b p c q d ⟨S, P, arm, false⟩)); exact rfl; exact rfl; exact zml; exact zkp; exact ⟨rfl, rfl, rfl⟩)
  · rw [if_pos rfl]
    refine Ct.enterV (by rfl) Try.func78 rfl Try.ntmps78 rfl (fun w0 Rest => ?_)
    (repeat' (first | refine zss ?_ | refine zsO ?_ | (refine zsp ?_ ?_ <;> (intro hc; (try simp only [zhcs, reduceCtorEq] at hc); (try (exfalso; first | omega | contradiction | omega | exact absurd rfl hc | exact absurd (by decide) hc))))))
    all_goals ((with_reducible apply At.retB1 (B := rr b p c q d ⟨S, P, arm, true⟩)); exact rfl; exact rfl; exact zml; exact zkp; exact ⟨rfl, rfl, rfl⟩)
theorem write {m : Mem} (b : Nat) (D : Dsk) (x : Chg) (ha : D.arm ≤ 9223372036854775807) (hl : D.pend.length ≤ 1000000000) : Ct Try.prog 72 #[ptr b, .int .i64 x.s, .string (str x.t)] m [R b D] (fun v m' B => v = .int .i64 (wr D x).2 ∧ B = [R b (wr D x).1]) := R.open fun s => by
  rw [List.append_nil]
  obtain ⟨p, c, q, d⟩ := s
  have k1 := fun (m' : Mem) (h : m.le m') => has0 (m := m') b D x.s p c q d
  have k2 := fun (m' : Mem) => step0 (m := m') b D p c q d ha
  obtain ⟨e1, e2⟩ := stp_safe D
  unfold wr
  by_cases h1 : ¬ has D x.s ∨ x.t.length ≠ 512
  · rw [if_pos h1]
    refine Ct.conv (R := fun v m' B => v = .int .i64 1 ∧ B = rr b p c q d D) ?_ fun v m' B _ ⟨h1, h3⟩ => ⟨_, ⟨h1, rfl⟩, fun Rest => by subst h3; exact R.close p c q d Rest⟩
    by_cases h2 : has D x.s
    · rw [decide_eq_true h2] at k1
      have h3 : ¬ x.t.length = 512 := h1.resolve_left (not_not_intro h2)
      refine Ct.enterV (by rfl) Try.func72 rfl Try.ntmps72 rfl (fun w0 Rest => ?_)
      (repeat' (first | refine zss ?_ | refine zsO ?_ | ((with_reducible first | apply AtM1.cr | apply AtQ.cr | apply At.cr); exact rfl; exact rfl; exact fun _ hmm => k1 _ hmm; exact ztk; kernel_rfl) | (refine zsp ?_ ?_ <;> (intro hc; (try simp only [zhcs, reduceCtorEq] at hc); (try (exfalso; first | (first | omega | exact absurd rfl hc) | contradiction | omega | exact absurd rfl hc | exact absurd (by decide) hc))))))
      all_goals ((with_reducible apply At.retB1 (B := rr b p c q d D)); exact rfl; exact rfl; exact zml; exact zkp; exact ⟨rfl, rfl⟩)
    · rw [decide_eq_false h2] at k1
      refine Ct.enterV (by rfl) Try.func72 rfl Try.ntmps72 rfl (fun w0 Rest => ?_)
      (repeat' (first | refine zss ?_ | refine zsO ?_ | ((with_reducible first | apply AtM1.cr | apply AtQ.cr | apply At.cr); exact rfl; exact rfl; exact fun _ hmm => k1 _ hmm; exact ztk; kernel_rfl) | (refine zsp ?_ ?_ <;> (intro hc; (try simp only [zhcs, reduceCtorEq] at hc); (try (exfalso; first | (first | omega | exact absurd rfl hc) | contradiction | omega | exact absurd rfl hc | exact absurd (by decide) hc))))))
      all_goals ((with_reducible apply At.retB1 (B := rr b p c q d D)); exact rfl; exact rfl; exact zml; exact zkp; exact ⟨rfl, rfl⟩)
  rw [if_neg h1]
  have h2 : has D x.s := Classical.byContradiction fun e => h1 (.inl e)
  have h3 : x.t.length = 512 := Classical.byContradiction fun e => h1 (.inr e)
  rw [decide_eq_true h2] at k1
  clear h1
  generalize stp D = T at k2 e1 e2 ⊢
  obtain ⟨D', w⟩ := T
  dsimp only at k2 e1 e2 ⊢
  by_cases hw : w = 0
  · rw [if_pos hw]
    subst hw
    refine Ct.conv (R := fun v m' B => v = .int .i64 0 ∧ ∃ q d, B = rr b p c q d ⟨D'.safe, D'.pend ++ [x], D'.arm, D'.down⟩) ?_ fun v m' B _ ⟨h1, q, d, h3⟩ => ⟨_, ⟨h1, rfl⟩, fun Rest => by subst h3; exact R.close p c q d Rest⟩
    rw [← e2] at hl
    refine Ct.enterV (by rfl) Try.func72 rfl Try.ntmps72 rfl (fun w0 Rest => ?_)
    (repeat' (first | refine zss ?_ | refine zsO ?_ | ((with_reducible first | apply AtM1.cr | apply AtQ.cr | apply At.cr); exact rfl; exact rfl; exact fun _ hmm => k1 _ hmm; exact ztk; kernel_rfl) | ((with_reducible first | apply At.c1 | apply At.c0); exact rfl; exact rfl; exact k2 _; exact ztk; kernel_rfl; rintro v' m' B' hm' ⟨rfl, rfl, rfl⟩; (try replace sl9 := sl9.mono hm'); (try (have hq0 : hm' = Mem.le_refl _ := rfl; clear hq0 hm'))) | ((with_reducible apply At.litF fC [x]); exact inferInstance; (iterate 7 exact rfl); intro b' m' hm' sl9; skip) | ((with_reducible apply At.apW (f := fC) (l := D'.pend)); exact rfl; exact rfl; exact (by repeat constructor); exact inferInstance; exact zrdl; (iterate 4 exact rfl); exact zom; exact rfl; intro q2 d2) | (refine zsp ?_ ?_ <;> (intro hc; (try simp only [zhcs, reduceCtorEq] at hc); (try (exfalso; first | (first | omega | exact absurd rfl hc) | contradiction | omega | exact absurd rfl hc | exact absurd (by decide) hc))))))
    all_goals ((with_reducible apply At.retB1 (B := rr b p c q2 d2 ⟨D'.safe, D'.pend ++ [x], D'.arm, D'.down⟩)); exact rfl; exact rfl; exact zml; exact zkp; exact ⟨rfl, q2, d2, rfl⟩)
  · rw [if_neg hw]
    refine Ct.conv (R := fun v m' B => v = .int .i64 w ∧ B = rr b p c q d D') ?_ fun v m' B _ ⟨h1, h3⟩ => ⟨_, ⟨h1, rfl⟩, fun Rest => by subst h3; exact R.close p c q d Rest⟩
    refine Ct.enterV (by rfl) Try.func72 rfl Try.ntmps72 rfl (fun w0 Rest => ?_)
    (repeat' (first | refine zss ?_ | refine zsO ?_ | ((with_reducible first | apply AtM1.cr | apply AtQ.cr | apply At.cr); exact rfl; exact rfl; exact fun _ hmm => k1 _ hmm; exact ztk; kernel_rfl) | ((with_reducible first | apply At.c1 | apply At.c0); exact rfl; exact rfl; exact k2 _; exact ztk; kernel_rfl; rintro v' m' B' hm' ⟨rfl, rfl, rfl⟩; (try replace sl9 := sl9.mono hm'); (try (have hq0 : hm' = Mem.le_refl _ := rfl; clear hq0 hm'))) | (refine zsp ?_ ?_ <;> (intro hc; (try simp only [zhcs, reduceCtorEq] at hc); (try (exfalso; first | (first | omega | exact absurd rfl hc | exact absurd hc hw) | contradiction | omega | exact absurd rfl hc | exact absurd (by decide) hc))))))
    all_goals ((with_reducible apply At.retB1 (B := rr b p c q d D')); exact rfl; exact rfl; exact zml; exact zkp; exact ⟨rfl, rfl⟩)
structure KS where
  (j n : Nat) (S : List (List UInt8))
theorem keep0 {m : Mem} (b : Nat) (p : Option Addr) (c : Nat) (q : Option Addr) (d : Nat) (D : Dsk) (g : FuncId) (caps : List Value) (is : Nat → Bool) (hok : ok D) (hl : D.pend.length ≤ 1000000000) (hls : D.safe.length ≤ 1000000000) (hg : goFn Try.prog g = true)
    (hq : ∀ m', m.le m' → ∀ i : Nat, i < D.pend.length → Ct Try.prog g (.int .i64 (i : Int) :: caps).toArray m' [] (fun v m'' B => v = .bool (is i) ∧ m' = m'' ∧ B = [])) :
    Ct Try.prog 41 #[ptr b, .func (.func g) #[] caps.toArray] m (rr b p c q d D) (fun v m' B => m = m' ∧ (∃ k : Int, v = .int .i64 k) ∧ B = rr b p c none 0 (kp D is)) := by
  have hlen := kpS_len D.safe D.pend is
  refine Ct.enterV (by rfl) Try.func41 rfl Try.ntmps41 rfl (fun w0 Rest => ?_)
  (repeat' (first | refine zss ?_ | refine zsO ?_ | ((with_reducible apply At.alloc (d := 7)); exact rfl; exact rfl; intro b7) | (refine zsp ?_ ?_ <;> (intro hc; (try simp only [zhcs, reduceCtorEq] at hc); (try (exfalso; first | (first | omega | exact absurd rfl hc) | contradiction | omega | exact absurd rfl hc | exact absurd (by decide) hc))))))
  (refine At.loopk (σ := KS) [0, 1, 11, 12] (fun s F0 => (13, .int .i64 (s.j : Int)) :: (5, .int .i64 (s.n : Int)) :: F0) (fun s => m) (fun s => .blk b 66 [.slice p D.safe.length c, .slice q D.pend.length d, .int .i64 D.arm, .bool D.down] :: .own Ls.fS 1 9 p c s.S :: .own fC 2 60 q d D.pend :: Rest) (fun s => s.j ≤ D.pend.length ∧ s.n ≤ s.j ∧ s.S = kpS D.safe D.pend is s.j) (fun s => D.pend.length - s.j) ⟨0, 0, D.safe⟩ (by rfl) ?_ zsubs zml zente ?_)
  · exact ⟨Nat.zero_le _, Nat.le_refl _, rfl⟩
  rintro ⟨j, n, S⟩ ⟨hj, hn, hS⟩
  dsimp only at hj hn hS ⊢
  have hSl : S.length = D.safe.length := by rw [hS]; exact hlen j
  by_cases h : j < D.pend.length
  · have hx := (hok _ (Ls.mem! h)).1
    unfold has at hx
    have hk := hq m (Mem.le_refl _) j h
    have hst : kpS D.safe D.pend is (j + 1) = if is j = true then put (kpS D.safe D.pend is j) D.pend[j]! else kpS D.safe D.pend is j := rfl
    rw [← hS] at hst
    clear hS hlen hok hq
    cases e : is j
    · rw [e] at hk hst
      rw [if_neg (by decide)] at hst
      (repeat' (first | refine zss ?_ | refine zsO ?_ | ((with_reducible apply At.callf); exact rfl; exact hg; exact rfl; exact rfl; exact hk; exact ztk; rintro v' m' B' hm' ⟨rfl, rfl, rfl⟩) | ((with_reducible apply At.alloc (d := 7)); exact rfl; exact rfl; intro b7) | (refine zsp ?_ ?_ <;> (intro hc; (try simp only [zhcs, reduceCtorEq] at hc); (try (exfalso; first | (first | omega | exact absurd rfl hc) | contradiction | omega | exact absurd rfl hc | exact absurd (by decide) hc))))))
      all_goals ((with_reducible refine At.reachk ((⟨j + 1, n, S⟩ : KS)) ?_ ?_ ?_ ?_); exact zsubs; exact zml; exact zente; exact ⟨⟨h, by dsimp only; omega, hst.symm⟩, by dsimp only; omega⟩)
    · rw [e] at hk hst
      rw [if_pos rfl] at hst
      (repeat' (first | ((with_reducible apply At.mixed (id := 6) 10 (.q 0 (.q 1 (.q 2 (.q 3 (.q 4 (.q 5 (.q 6 (.q 7 (.q 8 (.x 9 .done))))))))))); exact rfl; kernel_rfl; kernel_rfl; kernel_rfl) | refine zsx ?_ | refine zss ?_ | ((with_reducible apply AtM.bo); exact rfl; exact rfl; exact rfl) | refine zsO ?_ | refine zxO ?_ | ((with_reducible apply At.callf); exact rfl; exact hg; exact rfl; exact rfl; exact hk; exact ztk; rintro v' m' B' hm' ⟨rfl, rfl, rfl⟩) | ((with_reducible apply At.storeW (f := Ls.fS) (x' := (D.pend[j]!).t)); (case hx => exact rfl); (case hy => exact rfl); (case hv => exact rfl); (case hp => exact (by repeat constructor)); (case hr => exact rfl); (case hf => exact inferInstance); (case hk => exact zom); (case hs => exact rfl); (case hq => exact rfl); (case h1 => exact rfl)) | ((with_reducible apply At.alloc (d := 7)); exact rfl; exact rfl; intro b7) | (refine zsp ?_ ?_ <;> (intro hc; (try simp only [zhcs, reduceCtorEq] at hc); (try (exfalso; first | (first | omega | exact absurd rfl hc) | contradiction | omega | exact absurd rfl hc | exact absurd (by decide) hc))))))
      all_goals ((with_reducible refine At.reachk ((⟨j + 1, n + 1, put S D.pend[j]!⟩ : KS)) ?_ ?_ ?_ ?_); exact zsubs; exact zml; exact zente; exact ⟨⟨h, by dsimp only; omega, hst.symm⟩, by dsimp only; omega⟩)
  · obtain rfl : j = D.pend.length := by omega
    clear hq hok hlen
    refine At.own_nil fC 2 60 ?_
    subst hS
    (repeat' (first | refine zss ?_ | refine zsO ?_ | ((with_reducible apply At.alloc (d := 7)); exact rfl; exact rfl; intro b7) | (refine zsp ?_ ?_ <;> (intro hc; (try simp only [zhcs, reduceCtorEq] at hc); (try (exfalso; first | (first | omega | exact absurd rfl hc) | contradiction | omega | exact absurd rfl hc | exact absurd (by decide) hc))))))
    all_goals ((with_reducible apply At.retB1 (B := [.blk b 66 [.slice p D.safe.length c, .slice none 0 0, .int .i64 D.arm, .bool D.down], .own Ls.fS 1 9 p c (kpS D.safe D.pend is D.pend.length), .own fC 2 60 none 0 []])); exact rfl; exact rfl; exact zml; exact zkp; exact ⟨rfl, ⟨_, rfl⟩, by unfold kp rr; dsimp only [List.cons_append, List.nil_append]; rw [hSl]; rfl⟩)
theorem keep1 {m : Mem} (b : Nat) (p : Option Addr) (c : Nat) (q : Option Addr) (d : Nat) (D : Dsk) (g : FuncId) (caps : List Value) (R0 : Res) (is : Nat → Bool) (hok : ok D) (hl : D.pend.length ≤ 1000000000) (hls : D.safe.length ≤ 1000000000) (hg : goFn Try.prog g = true)
    (hq : ∀ m', m.le m' → ∀ i : Nat, i < D.pend.length → Ct Try.prog g (.int .i64 (i : Int) :: caps).toArray m' [R0] (fun v m'' B => v = .bool (is i) ∧ m' = m'' ∧ B = [R0])) :
    Ct Try.prog 41 #[ptr b, .func (.func g) #[] caps.toArray] m (rr b p c q d D ++ [R0]) (fun v m' B => m = m' ∧ (∃ k : Int, v = .int .i64 k) ∧ B = rr b p c none 0 (kp D is) ++ [R0]) := by
  have hlen := kpS_len D.safe D.pend is
  refine Ct.enterV (by rfl) Try.func41 rfl Try.ntmps41 rfl (fun w0 Rest => ?_)
  (repeat' (first | refine zss ?_ | refine zsO ?_ | ((with_reducible apply At.alloc (d := 7)); exact rfl; exact rfl; intro b7) | (refine zsp ?_ ?_ <;> (intro hc; (try simp only [zhcs, reduceCtorEq] at hc); (try (exfalso; first | (first | omega | exact absurd rfl hc) | contradiction | omega | exact absurd rfl hc | exact absurd (by decide) hc))))))
  (refine At.loopk (σ := KS) [0, 1, 11, 12] (fun s F0 => (13, .int .i64 (s.j : Int)) :: (5, .int .i64 (s.n : Int)) :: F0) (fun s => m) (fun s => .blk b 66 [.slice p D.safe.length c, .slice q D.pend.length d, .int .i64 D.arm, .bool D.down] :: .own Ls.fS 1 9 p c s.S :: .own fC 2 60 q d D.pend :: R0 :: Rest) (fun s => s.j ≤ D.pend.length ∧ s.n ≤ s.j ∧ s.S = kpS D.safe D.pend is s.j) (fun s => D.pend.length - s.j) ⟨0, 0, D.safe⟩ (by rfl) ?_ zsubs zml zente ?_)
  · exact ⟨Nat.zero_le _, Nat.le_refl _, rfl⟩
  rintro ⟨j, n, S⟩ ⟨hj, hn, hS⟩
  dsimp only at hj hn hS ⊢
  have hSl : S.length = D.safe.length := by rw [hS]; exact hlen j
  by_cases h : j < D.pend.length
  · have hx := (hok _ (Ls.mem! h)).1
    unfold has at hx
    have hk := hq m (Mem.le_refl _) j h
    have hst : kpS D.safe D.pend is (j + 1) = if is j = true then put (kpS D.safe D.pend is j) D.pend[j]! else kpS D.safe D.pend is j := rfl
    rw [← hS] at hst
    clear hS hlen hok hq
    cases e : is j
    · rw [e] at hk hst
      rw [if_neg (by decide)] at hst
      (repeat' (first | refine zss ?_ | refine zsO ?_ | ((with_reducible apply At.callf); exact rfl; exact hg; exact rfl; exact rfl; exact hk; exact ztk; rintro v' m' B' hm' ⟨rfl, rfl, rfl⟩) | ((with_reducible apply At.alloc (d := 7)); exact rfl; exact rfl; intro b7) | (refine zsp ?_ ?_ <;> (intro hc; (try simp only [zhcs, reduceCtorEq] at hc); (try (exfalso; first | (first | omega | exact absurd rfl hc) | contradiction | omega | exact absurd rfl hc | exact absurd (by decide) hc))))))
      all_goals ((with_reducible refine At.reachk ((⟨j + 1, n, S⟩ : KS)) ?_ ?_ ?_ ?_); exact zsubs; exact zml; exact zente; exact ⟨⟨h, by dsimp only; omega, hst.symm⟩, by dsimp only; omega⟩)
    · rw [e] at hk hst
      rw [if_pos rfl] at hst
      (repeat' (first | ((with_reducible apply At.mixed (id := 6) 10 (.q 0 (.q 1 (.q 2 (.q 3 (.q 4 (.q 5 (.q 6 (.q 7 (.q 8 (.x 9 .done))))))))))); exact rfl; kernel_rfl; kernel_rfl; kernel_rfl) | refine zsx ?_ | refine zss ?_ | ((with_reducible apply AtM.bo); exact rfl; exact rfl; exact rfl) | refine zsO ?_ | refine zxO ?_ | ((with_reducible apply At.callf); exact rfl; exact hg; exact rfl; exact rfl; exact hk; exact ztk; rintro v' m' B' hm' ⟨rfl, rfl, rfl⟩) | ((with_reducible apply At.storeW (f := Ls.fS) (x' := (D.pend[j]!).t)); (case hx => exact rfl); (case hy => exact rfl); (case hv => exact rfl); (case hp => exact (by repeat constructor)); (case hr => exact rfl); (case hf => exact inferInstance); (case hk => exact zom); (case hs => exact rfl); (case hq => exact rfl); (case h1 => exact rfl)) | ((with_reducible apply At.alloc (d := 7)); exact rfl; exact rfl; intro b7) | (refine zsp ?_ ?_ <;> (intro hc; (try simp only [zhcs, reduceCtorEq] at hc); (try (exfalso; first | (first | omega | exact absurd rfl hc) | contradiction | omega | exact absurd rfl hc | exact absurd (by decide) hc))))))
      all_goals ((with_reducible refine At.reachk ((⟨j + 1, n + 1, put S D.pend[j]!⟩ : KS)) ?_ ?_ ?_ ?_); exact zsubs; exact zml; exact zente; exact ⟨⟨h, by dsimp only; omega, hst.symm⟩, by dsimp only; omega⟩)
  · obtain rfl : j = D.pend.length := by omega
    clear hq hok hlen
    refine At.own_nil fC 2 60 ?_
    subst hS
    (repeat' (first | refine zss ?_ | refine zsO ?_ | ((with_reducible apply At.alloc (d := 7)); exact rfl; exact rfl; intro b7) | (refine zsp ?_ ?_ <;> (intro hc; (try simp only [zhcs, reduceCtorEq] at hc); (try (exfalso; first | (first | omega | exact absurd rfl hc) | contradiction | omega | exact absurd rfl hc | exact absurd (by decide) hc))))))
    all_goals ((with_reducible apply At.retB1 (B := [.blk b 66 [.slice p D.safe.length c, .slice none 0 0, .int .i64 D.arm, .bool D.down], .own Ls.fS 1 9 p c (kpS D.safe D.pend is D.pend.length), .own fC 2 60 none 0 [], R0])); exact rfl; exact rfl; exact zml; exact zkp; exact ⟨rfl, ⟨_, rfl⟩, by unfold kp rr; dsimp only [List.cons_append, List.nil_append]; rw [hSl]; rfl⟩)
theorem syn1 {m : Mem} (i : Nat) : Ct Try.prog 79 #[.int .i64 (i : Int)] m [] (fun v m' B => v = .bool true ∧ m = m' ∧ B = []) := by
  refine Ct.enterV (by rfl) Try.func79 rfl Try.ntmps79 rfl (fun w0 Rest => ?_)
  (repeat' (first | refine zss ?_ | refine zs0 ?_ | (refine zsp ?_ ?_ <;> (intro hc; (try simp only [zhcs, reduceCtorEq] at hc); (try (exfalso; first | contradiction | omega | exact absurd rfl hc | exact absurd (by decide) hc))))))
  all_goals ((with_reducible apply At.retB1 (B := [])); exact rfl; exact rfl; exact zml; exact zkp; exact ⟨rfl, rfl, rfl⟩)
theorem sync {m : Mem} (b : Nat) (D : Dsk) (ha : D.arm ≤ 9223372036854775807) (hok : ok D) (hl : D.pend.length ≤ 1000000000) (hls : D.safe.length ≤ 1000000000) : Ct Try.prog 73 #[ptr b] m [R b D] (fun v m' B => v = .int .i64 (syn D).2 ∧ B = [R b (syn D).1]) := R.open fun s => by
  rw [List.append_nil]
  obtain ⟨p, c, q, d⟩ := s
  have k2 := fun (m' : Mem) => step0 (m := m') b D p c q d ha
  obtain ⟨e1, e2⟩ := stp_safe D
  unfold syn
  generalize stp D = T at k2 e1 e2 ⊢
  obtain ⟨D', w⟩ := T
  dsimp only at k2 e1 e2 ⊢
  have hok' : ok D' := fun x hx => by
    have := hok x (e2 ▸ hx)
    unfold has at this ⊢
    rw [e1]
    exact this
  have k3 := fun (m' : Mem) => keep0 (m := m') b p c q d D' 79 [] (fun _ => true) hok' (by rw [e2]; exact hl) (by rw [e1]; exact hls) (by kernel_rfl) (fun m2 _ i _ => syn1 i)
  by_cases hw : w = 0
  · rw [if_pos hw]
    subst hw
    refine Ct.conv (R := fun v m' B => v = .int .i64 0 ∧ B = rr b p c none 0 (kp D' fun _ => true)) ?_ fun v m' B _ ⟨h1, h3⟩ => ⟨_, ⟨h1, rfl⟩, fun Rest => by subst h3; exact R.close p c none 0 Rest⟩
    clear hok hok' e1 e2
    refine Ct.enterV (by rfl) Try.func73 rfl Try.ntmps73 rfl (fun w0 Rest => ?_)
    (repeat' (first | refine zss ?_ | refine zsO ?_ | ((with_reducible first | apply At.c1 | apply At.c0); exact rfl; exact rfl; exact k2 _; exact ztk; kernel_rfl; rintro v' m' B' hm' ⟨rfl, rfl, rfl⟩; skip; (try (have hq0 : hm' = Mem.le_refl _ := rfl; clear hq0 hm'))) | ((with_reducible first | apply At.c1 | apply At.c0); exact rfl; exact rfl; exact k3 _; exact ztk; kernel_rfl; rintro v' m' B' hm' ⟨rfl, ⟨k, rfl⟩, rfl⟩; skip; (try (have hq0 : hm' = Mem.le_refl _ := rfl; clear hq0 hm'))) | (refine zsp ?_ ?_ <;> (intro hc; (try simp only [zhcs, reduceCtorEq] at hc); (try (exfalso; first | (first | omega | exact absurd rfl hc) | contradiction | omega | exact absurd rfl hc | exact absurd (by decide) hc))))))
    all_goals ((with_reducible apply At.retB1 (B := rr b p c none 0 (kp D' fun _ => true))); exact rfl; exact rfl; exact zml; exact zkp; exact ⟨rfl, rfl⟩)
  · rw [if_neg hw]
    refine Ct.conv (R := fun v m' B => v = .int .i64 w ∧ B = rr b p c q d D') ?_ fun v m' B _ ⟨h1, h3⟩ => ⟨_, ⟨h1, rfl⟩, fun Rest => by subst h3; exact R.close p c q d Rest⟩
    clear hok hok' e1 e2 k3
    refine Ct.enterV (by rfl) Try.func73 rfl Try.ntmps73 rfl (fun w0 Rest => ?_)
    (repeat' (first | refine zss ?_ | refine zsO ?_ | ((with_reducible first | apply At.c1 | apply At.c0); exact rfl; exact rfl; exact k2 _; exact ztk; kernel_rfl; rintro v' m' B' hm' ⟨rfl, rfl, rfl⟩; skip; (try (have hq0 : hm' = Mem.le_refl _ := rfl; clear hq0 hm'))) | (refine zsp ?_ ?_ <;> (intro hc; (try simp only [zhcs, reduceCtorEq] at hc); (try (exfalso; first | (first | omega | exact absurd rfl hc | exact absurd hc hw) | contradiction | omega | exact absurd rfl hc | exact absurd (by decide) hc))))))
    all_goals ((with_reducible apply At.retB1 (B := rr b p c q d D')); exact rfl; exact rfl; exact zml; exact zkp; exact ⟨rfl, rfl⟩)
theorem arm_ {m : Mem} (b : Nat) (D : Dsk) (n : Int) : Ct Try.prog 16 #[ptr b, .int .i64 n] m [R b D] (fun v m' B => v = .tuple #[] ∧ m = m' ∧ B = [R b ⟨D.safe, D.pend, max n 0, D.down⟩]) := R.open fun s => by
  rw [List.append_nil]
  obtain ⟨p, c, q, d⟩ := s
  refine Ct.conv (R := fun v m' B => v = .tuple #[] ∧ m = m' ∧ B = rr b p c q d ⟨D.safe, D.pend, max n 0, D.down⟩) ?_ fun v m' B _ ⟨h1, h2, h3⟩ => ⟨_, ⟨h1, h2, rfl⟩, fun Rest => by subst h3; exact R.close p c q d Rest⟩
  refine Ct.enterV (by rfl) Try.func16 rfl Try.ntmps16 rfl (fun w0 Rest => ?_)
  (repeat' (first | refine zss ?_ | refine zsO ?_ | (refine zsp ?_ ?_ <;> (intro hc; (try simp only [zhcs, reduceCtorEq] at hc); (try (exfalso; first | omega | contradiction | omega | exact absurd rfl hc | exact absurd (by decide) hc))))))
  all_goals ((first | (with_reducible apply At.retB0 (B := rr b p c q d ⟨D.safe, D.pend, max n 0, D.down⟩)) | (with_reducible apply At.retR0 (B := rr b p c q d ⟨D.safe, D.pend, max n 0, D.down⟩))); exact rfl; exact zml; exact zkp; exact ⟨rfl, rfl, rfl⟩)
/-- which writes are kept -/
def kq (l : List Bool) (i : Nat) : Bool := decide (i < l.length) && l[i]!
abbrev kb (b : Nat) (p : Option Addr) (n c : Nat) : Res := .blk b 27 [.slice p n c]
theorem up1 {m : Mem} (b i : Nat) (p : Option Addr) (c : Nat) (l : List Bool) (hl : l.length ≤ 9223372036854775807) (sl0 : Sl m Ls.fO 1 p c l) : Ct Try.prog 42 #[.int .i64 (i : Int), ptr b] m [kb b p l.length c] (fun v m' B => v = .bool (kq l i) ∧ m = m' ∧ B = [kb b p l.length c]) := by
  unfold kq
  by_cases h : i < l.length
  · rw [decide_eq_true h, Bool.true_and]
    refine Ct.enterV (by rfl) Try.func42 rfl Try.ntmps42 rfl (fun w0 Rest => ?_)
    (repeat' (first | refine zss ?_ | refine zsM ?_ | (refine zsp ?_ ?_ <;> (intro hc; (try simp only [zhcs, reduceCtorEq] at hc); (try (exfalso; first | omega | contradiction | omega | exact absurd rfl hc | exact absurd (by decide) hc))))))
    all_goals ((with_reducible apply At.retB1 (B := [kb b p l.length c])); exact rfl; exact rfl; exact zml; exact zkp; exact ⟨rfl, rfl, rfl⟩)
  · rw [decide_eq_false h, Bool.false_and]
    refine Ct.enterV (by rfl) Try.func42 rfl Try.ntmps42 rfl (fun w0 Rest => ?_)
    (repeat' (first | refine zss ?_ | refine zsM ?_ | (refine zsp ?_ ?_ <;> (intro hc; (try simp only [zhcs, reduceCtorEq] at hc); (try (exfalso; first | omega | contradiction | omega | exact absurd rfl hc | exact absurd (by decide) hc))))))
    all_goals ((with_reducible apply At.retB1 (B := [kb b p l.length c])); exact rfl; exact rfl; exact zml; exact zkp; exact ⟨rfl, rfl, rfl⟩)
theorem up_ {m : Mem} (b : Nat) (D : Dsk) (p0 : Option Addr) (c0 : Nat) (l : List Bool) (hok : ok D) (hl : D.pend.length ≤ 1000000000) (hls : D.safe.length ≤ 1000000000) (hll : l.length ≤ 9223372036854775807) (sl0 : Sl m Ls.fO 1 p0 c0 l) : Ct Try.prog 17 #[ptr b, .slice p0 l.length c0] m [R b D] (fun v m' B => m = m' ∧ (∃ k : Int, v = .int .i64 k) ∧ B = [R b (kp ⟨D.safe, D.pend, 0, false⟩ (kq l))]) := R.open fun s => by
  rw [List.append_nil]
  obtain ⟨p, c, q, d⟩ := s
  dsimp only [rr]
  refine Ct.conv (R := fun v m' B => m = m' ∧ (∃ k : Int, v = .int .i64 k) ∧ B = rr b p c none 0 (kp ⟨D.safe, D.pend, 0, false⟩ (kq l))) ?_ fun v m' B _ ⟨h1, h2, h3⟩ => ⟨_, ⟨h1, h2, rfl⟩, fun Rest => by subst h3; exact R.close p c none 0 Rest⟩
  have k3 := fun (m' : Mem) (h : m.le m') (b3 : Nat) => keep1 (m := m') b p c q d ⟨D.safe, D.pend, 0, false⟩ 42 [ptr b3] (kb b3 p0 l.length c0) (kq l) hok hl hls (by kernel_rfl) (fun m2 h2 i _ => up1 b3 i p0 c0 l hll ((sl0.mono h).mono h2))
  dsimp only [rr, List.cons_append, List.nil_append] at k3
  clear hok
  refine Ct.enterV (by rfl) Try.func17 rfl Try.ntmps17 rfl (fun w0 Rest => ?_)
  (repeat' (first | refine zss ?_ | refine zsO ?_ | ((with_reducible first | apply At.c1 | apply At.c0); exact rfl; exact rfl; exact k3 _ zml b3; exact ztk; kernel_rfl; rintro v' m' B' hm' ⟨rfl, ⟨k, rfl⟩, rfl⟩; (try replace sl0 := sl0.mono hm'); (try (have hq0 : hm' = Mem.le_refl _ := rfl; clear hq0 hm'))) | ((with_reducible apply At.box (d := 3)); exact rfl; exact rfl; exact rfl; intro b3) | (refine zsp ?_ ?_ <;> (intro hc; (try simp only [zhcs, reduceCtorEq] at hc); (try (exfalso; first | (first | omega | exact absurd rfl hc) | contradiction | omega | exact absurd rfl hc | exact absurd (by decide) hc))))))
  all_goals ((with_reducible apply At.retB1 (B := rr b p c none 0 (kp ⟨D.safe, D.pend, 0, false⟩ (kq l)))); exact rfl; exact rfl; exact zml; exact zkp; exact ⟨rfl, ⟨_, rfl⟩, rfl⟩)
end Dk
end Go.Proofs.Ytijgnbedilipdaa
