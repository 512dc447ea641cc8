/- Part 9 of what the law's proof needs: rules of the walk, contracts of functions, plain laws. No condition. -/
import Derived.Test.YtijgnbedilipdaaTdEZ8
set_option linter.unusedSimpArgs false
set_option linter.unusedVariables false
set_option linter.unusedSectionVars false
set_option maxRecDepth 20000
set_option maxHeartbeats 4000000
namespace Go.Proofs.Ytijgnbedilipdaa
open Go Go.J
attribute [local irreducible] At AtQ AtM AtM1 PR Ct Pu Rd Res.blk Res.own Res.ex Res.obj RVs RV CW LW YC BK bodyPostM roundPost Dk.R Cod.W
namespace Td
open Dk Conf Redo
section
variable {r a b e x y w c g : Int}
theorem homes {m : Mem} (by_ : Int) (N n : Nat) (hg : Ok r a b e x y w c g) (hs : szv r x y w c g = (N : Int)) (hN : N ≤ 1000000) (hn : (n : Int) = N - hmv g) (h2 : n ≤ 200) (hb : 0 ≤ by_ ∧ by_ < 256) :
    Ct Try.prog 9 #[kv r a b e x y w c g, .int .u8 by_] m [] (fun v m' B => ∃ p d, v = .slice p (hom by_ n).length d ∧ Sl m' Ls.fS 1 p d (hom by_ n) ∧ B = []) := by
  have k1 := sizeF hg
  rw [if_neg (by omega), hs] at k1
  have k2 := homeF hg
  have hbb := hm_bd hg
  have hgb := hg.hg
  generalize hmv g = H at k2 hn hbb
  refine Ct.enterV (by rfl) Try.func9 rfl Try.ntmps9 rfl (fun w0 Rest => ?_)
  (repeat' (first | refine zss ?_ | ((first | (with_reducible first | apply At.val | apply AtQ.val)); (exact zprA); exact rfl) | refine zs0 ?_ | ((with_reducible first | apply AtM1.callp | apply AtQ.callp | apply At.callp); kernel_rfl; exact rfl; exact rfl; exact k1) | ((with_reducible first | apply AtM1.callp | apply AtQ.callp | apply At.callp); kernel_rfl; exact rfl; exact rfl; exact k2) | ((with_reducible apply At.box (d := 2)); exact rfl; exact rfl; exact rfl; intro b2) | (refine zsp ?_ ?_ <;> (intro hc; (try simp only [zhcs, reduceCtorEq] at hc); (try (exfalso; first | (first | omega | exact absurd rfl hc) | contradiction | omega | exact absurd rfl hc | exact absurd (by decide) hc))))))
  all_goals refine At.own_nil Ls.fS 1 9 ?_
  (refine At.loopk (σ := HS) [1, 17] (fun s F0 => (5, .slice s.p (hom by_ s.j).length s.d) :: (18, .int .i64 (s.j : Int)) :: F0) (fun s => m) (fun s => .own Ls.fS 1 9 s.p s.d (hom by_ s.j) :: Rest) (fun s => s.j ≤ n) (fun s => n - s.j) ⟨0, none, 0⟩ (by rfl) ?_ zsubs zml zente ?_)
  · exact Nat.zero_le _
  rintro ⟨j, p, d⟩ hj
  dsimp only at hj ⊢
  have hlj := hom_len by_ j
  by_cases h : j < n
  · have k3 := text13 ((by_ + (j : Int)) % 256) (by omega)
    have hsn := hom_snoc by_ j
    have hw1 : IntKind.wrap .i64 (j : Int) = (j : Int) := IntWalk.i64_in _ (by omega)
    have hw2 : IntKind.wrap .u8 (j : Int) = (j : Int) := IntWalk.u8_in _ (by omega)
    have hw3 : IntKind.wrap .u8 (by_ + (j : Int)) = (by_ + (j : Int)) % 256 := IntKind.wrap_u8 _
    (repeat' (first | refine zss ?_ | ((first | (with_reducible first | apply At.val | apply AtQ.val)); (first | exact pr_add (by rfl) (by rfl) hw3 | exact zprA); exact rfl) | refine zs0 ?_ | ((with_reducible first | apply AtM1.callp | apply AtQ.callp | apply At.callp); kernel_rfl; exact rfl; exact rfl; exact k3) | ((with_reducible apply At.litF Ls.fS [tb by_ j]); exact inferInstance; (iterate 7 exact rfl); intro b' m' hm' sl9; (try replace sl3 := sl3.mono hm')) | ((with_reducible apply At.apW (f := Ls.fS) (l := hom by_ j)); exact rfl; exact rfl; exact (by repeat constructor); exact inferInstance; exact zrdl; (iterate 4 exact rfl); exact zom; exact rfl; intro p2 d2) | ((with_reducible apply At.box (d := 2)); exact rfl; exact rfl; exact rfl; intro b2) | (refine zsp ?_ ?_ <;> (intro hc; (try simp only [zhcs, reduceCtorEq] at hc); (try (exfalso; first | (first | omega | exact absurd rfl hc) | contradiction | omega | exact absurd rfl hc | exact absurd (by decide) hc))))))
    all_goals rw [← hsn]
    all_goals ((with_reducible refine At.reachk ((⟨j + 1, p2, d2⟩ : HS)) ?_ ?_ ?_ ?_); exact zsubs; exact zml; exact zente; exact ⟨h, by dsimp only; omega⟩)
  · obtain rfl : j = n := by omega
    (refine At.own_freeze inferInstance (by repeat constructor) fun m' hm' sl3 => ?_; (try replace sl9 := sl9.mono hm'))
    (repeat' (first | refine zss ?_ | ((first | (with_reducible first | apply At.val | apply AtQ.val)); (exact zprA); exact rfl) | refine zs0 ?_ | ((with_reducible apply At.box (d := 2)); exact rfl; exact rfl; exact rfl; intro b2) | (refine zsp ?_ ?_ <;> (intro hc; (try simp only [zhcs, reduceCtorEq] at hc); (try (exfalso; first | (first | omega | exact absurd rfl hc) | contradiction | omega | exact absurd rfl hc | exact absurd (by decide) hc))))))
    all_goals ((with_reducible apply At.retB1 (B := [])); exact rfl; exact rfl; exact zml; exact zkp; exact ⟨p, d, rfl, sl3, rfl⟩)
/-- a commit, as the law is given it -/
structure Cm where
  (p1 : Option Addr) (c1 : Nat) (L : List Nat) (by_ step : Int) (p2 : Option Addr) (c2 : Nat) (K : List Bool) (again : Int) (p3 : Option Addr) (c3 : Nat) (T : List Bool)
abbrev Cm.cells (z : Cm) : List Value := [.slice z.p1 z.L.length z.c1, .int .u8 z.by_, .int .i64 z.step, .slice z.p2 z.K.length z.c2, .int .i64 z.again, .slice z.p3 z.T.length z.c3]
/-- what home is behind the first j changes -/
def nowP (by_ : Int) (L : List Nat) (H : List (List UInt8)) : Nat → List (List UInt8)
  | 0 => H
  | j + 1 => (nowP by_ L H j).set (L[j]! % H.length) (tb by_ j)
theorem nowP_len (b : Int) (L : List Nat) (H : List (List UInt8)) : ∀ j, (nowP b L H j).length = H.length
  | 0 => rfl
  | j + 1 => by rw [nowP, List.length_set, nowP_len b L H j]
/-- the first j changes -/
def chP (h : Int) (by_ : Int) (L : List Nat) (n : Nat) (j : Nat) : List Chg := (List.range j).map fun i => ⟨h + ((L[i]! % n : Nat) : Int), tb by_ i⟩
theorem chP_len (h b : Int) (L : List Nat) (n j : Nat) : (chP h b L n j).length = j := by unfold chP; rw [List.length_map, List.length_range]
theorem chP_snoc (h b : Int) (L : List Nat) (n j : Nat) : chP h b L n (j + 1) = chP h b L n j ++ [⟨h + ((L[j]! % n : Nat) : Int), tb b j⟩] := by unfold chP; rw [List.range_succ, List.map_append]; rfl
structure CS where
  (j : Nat) (p : Option Addr) (d : Nat)
theorem changes {m : Mem} (z : Cm) (p : Option Addr) (d : Nat) (H : List (List UInt8)) (hg : Ok r a b e x y w c g) (h1 : 1 ≤ H.length) (h2 : H.length ≤ 200) (hL : z.L.length ≤ 40) (hLb : ∀ k ∈ z.L, k < 65536) (hb : 0 ≤ z.by_ ∧ z.by_ < 256) (sl0 : Sl m Ls.fS 1 p d H) (sl1 : Sl m Ls.fH 1 z.p1 z.c1 z.L) :
    Ct Try.prog 11 #[.agg z.cells.toArray, kv r a b e x y w c g, .slice p H.length d] m [] (fun v m' B => ∃ pc dc pn dn, v = .tuple #[.slice pc (chP (hmv g) z.by_ z.L H.length z.L.length).length dc, .slice pn (nowP z.by_ z.L H z.L.length).length dn] ∧
      Sl m' fC 2 pc dc (chP (hmv g) z.by_ z.L H.length z.L.length) ∧ Sl m' Ls.fS 1 pn dn (nowP z.by_ z.L H z.L.length) ∧ B = []) := by
  obtain ⟨p1, c1, L, by_, step, p2, c2, K, again, p3, c3, T⟩ := z
  dsimp only [Cm.cells] at hL hLb hb sl1 ⊢
  have k2 := homeF hg
  have hbb := hm_bd hg
  have hgb := hg.hg
  generalize hmv g = h at k2 hbb ⊢
  refine Ct.enterV (by rfl) Try.func11 rfl Try.ntmps11 rfl (fun w0 Rest => ?_)
  (repeat' (first | refine zss ?_ | ((first | (with_reducible first | apply At.val | apply AtQ.val)); (exact zprA); exact rfl) | refine zs0 ?_ | ((with_reducible apply At.lit Ls.fS ([] : List (List UInt8))); exact inferInstance; (iterate 7 exact rfl); intro _) | ((with_reducible apply At.apW (f := Ls.fS) (l := ([] : List (List UInt8)))); exact rfl; exact rfl; exact (by repeat constructor); exact inferInstance; exact zrdl; (iterate 4 exact rfl); exact zom; exact rfl; intro pn dn) | ((with_reducible apply At.box (d := 3)); exact rfl; exact rfl; exact rfl; intro b3) | ((with_reducible apply At.box (d := 4)); exact rfl; exact rfl; exact rfl; intro b4) | (refine zsp ?_ ?_ <;> (intro hc; (try simp only [zhcs, reduceCtorEq] at hc); (try (exfalso; first | (first | omega | exact absurd rfl hc) | contradiction | omega | exact absurd rfl hc | exact absurd (by decide) hc))))))
  all_goals rw [List.nil_append]
  all_goals refine At.own_nil fC 2 60 ?_
  clear sl0
  (refine At.loopk (σ := CS) [2, 3, 4, 8, 17, 18] (fun s F0 => (9, .slice s.p (chP h by_ L H.length s.j).length s.d) :: (19, .int .i64 (s.j : Int)) :: F0) (fun s => m) (fun s => .own fC 2 60 s.p s.d (chP h by_ L H.length s.j) :: .own Ls.fS 1 9 pn dn (nowP by_ L H s.j) :: .blk b4 25 [gi r, gi a, gi b, gi e, gi x, gi y, gi w, gi c, gi g] :: .blk b3 29 [.slice p1 L.length c1, .int .u8 by_, .int .i64 step, .slice p2 K.length c2, .int .i64 again, .slice p3 T.length c3] :: Rest) (fun s => s.j ≤ L.length) (fun s => L.length - s.j) ⟨0, none, 0⟩ (by rfl) ?_ zsubs zml zente ?_)
  · exact Nat.zero_le _
  rintro ⟨j, pc, dc⟩ hj
  dsimp only at hj ⊢
  have hlj := chP_len h by_ L H.length j
  have hnl := nowP_len by_ L H j
  by_cases h0 : j < L.length
  · have k3 := text13 ((by_ + (j : Int)) % 256) (by omega)
    have hsn := chP_snoc h by_ L H.length j
    have hw3 : IntKind.wrap .u8 (by_ + (j : Int)) = (by_ + (j : Int)) % 256 := IntKind.wrap_u8 _
    have hkb := hLb _ (Ls.mem! h0)
    have hm : L[j]! % H.length < H.length := Nat.mod_lt _ (by omega)
    have eq : (L[j]! : Int) % (H.length : Int) = ((L[j]! % H.length : Nat) : Int) := (Int.natCast_emod _ _).symm
    (repeat' (first | refine zss ?_ | ((first | (with_reducible first | apply At.val | apply AtQ.val)); (exact zprA); exact rfl) | refine zsM ?_ | ((with_reducible apply At.box (d := 3)); exact rfl; exact rfl; exact rfl; intro b3) | ((with_reducible apply At.box (d := 4)); exact rfl; exact rfl; exact rfl; intro b4) | (refine zsp ?_ ?_ <;> (intro hc; (try simp only [zhcs, reduceCtorEq] at hc); (try (exfalso; first | (first | omega | exact absurd rfl hc) | contradiction | omega | exact absurd rfl hc | exact absurd (by decide) hc))))))
    all_goals rw [eq]
    have hnx : nowP by_ L H (j + 1) = (nowP by_ L H j).set (L[j]! % H.length) (tb by_ j) := rfl
    have hget : ((nowP by_ L H j).set (L[j]! % H.length) (tb by_ j))[L[j]! % H.length]! = tb by_ j := by
      rw [getElem!_pos _ _ (by rw [List.length_set, hnl]; exact hm), List.getElem_set_self]
    have hl2 : ((nowP by_ L H j).set (L[j]! % H.length) (tb by_ j)).length = H.length := by rw [List.length_set, hnl]
    clear eq sl1 hLb hkb
    generalize L[j]! % H.length = k at hm hsn hnx hget hl2 ⊢
    generalize hN : nowP by_ L H j = N at hnl hnx hget hl2 ⊢
    (repeat' (first | ((with_reducible apply At.mixed (id := 8) 13 (.q 0 (.q 1 (.q 2 (.q 3 (.q 4 (.q 5 (.q 6 (.q 7 (.q 8 (.q 9 (.x 10 (.x 11 (.q 12 .done)))))))))))))); exact rfl; kernel_rfl; kernel_rfl; kernel_rfl) | refine zsx ?_ | refine zss ?_ | ((with_reducible apply AtM.bo); exact rfl; exact rfl; exact rfl) | ((first | (with_reducible first | apply At.val | apply AtQ.val) | ((with_reducible first | apply AtM1.valz | apply AtM1.val); exact rfl) | ((with_reducible apply AtM1.val); exact rfl)); (exact zprA); exact rfl) | refine zsO ?_ | refine zxO ?_ | ((with_reducible first | apply AtM1.callp | apply AtQ.callp | apply At.callp); kernel_rfl; exact rfl; exact rfl; exact k3) | ((with_reducible first | apply AtM1.callp | apply AtQ.callp | apply At.callp); kernel_rfl; exact rfl; exact rfl; exact k2) | ((with_reducible apply At.storeW (f := Ls.fS) (x' := (tb by_ j))); (case hx => exact rfl); (case hy => exact rfl); (case hv => exact rfl); (case hp => exact (by repeat constructor)); (case hr => exact rfl); (case hf => exact inferInstance); (case hk => exact zom); (case hs => exact rfl); (case hq => exact rfl); (case h1 => exact rfl)) | ((with_reducible apply At.litF fC [(⟨h + (k : Int), (N.set k (tb by_ j))[k]!⟩ : Chg)]); exact inferInstance; (iterate 7 exact rfl); intro b' m' hm' sl9; (try replace sl0 := sl0.mono hm'); (try replace sl1 := sl1.mono hm'); (try replace sl3 := sl3.mono hm'); (try replace sl4 := sl4.mono hm')) | ((with_reducible apply At.apW (f := fC) (l := chP h by_ L H.length j)); exact rfl; exact rfl; exact (by repeat constructor); exact inferInstance; exact zrdl; (iterate 4 exact rfl); exact zom; exact rfl; intro p5 d5) | ((with_reducible apply At.box (d := 3)); exact rfl; exact rfl; exact rfl; intro b3) | ((with_reducible apply At.box (d := 4)); exact rfl; exact rfl; exact rfl; intro b4) | (refine zsp ?_ ?_ <;> (intro hc; (try simp only [zhcs, reduceCtorEq] at hc); (try (exfalso; first | (first | omega | exact absurd rfl hc) | contradiction | omega | exact absurd rfl hc | exact absurd (by decide) hc))))))
    all_goals rw [hget, ← hsn, ← hnx]
    all_goals ((with_reducible refine At.reachk ((⟨j + 1, p5, d5⟩ : CS)) ?_ ?_ ?_ ?_); exact zsubs; exact zml; exact zente; exact ⟨h0, by dsimp only; omega⟩)
  · obtain rfl : j = L.length := by omega
    (refine At.own_freeze inferInstance (by repeat constructor) fun m' hm' sl3 => ?_; (try replace sl0 := sl0.mono hm'); (try replace sl1 := sl1.mono hm'); (try replace sl4 := sl4.mono hm'); (try replace sl9 := sl9.mono hm'))
    (refine At.own_freeze inferInstance (by repeat constructor) fun m' hm' sl4 => ?_; (try replace sl0 := sl0.mono hm'); (try replace sl1 := sl1.mono hm'); (try replace sl3 := sl3.mono hm'); (try replace sl9 := sl9.mono hm'))
    (repeat' (first | refine zss ?_ | ((first | (with_reducible first | apply At.val | apply AtQ.val)); (exact zprA); exact rfl) | refine zs0 ?_ | ((with_reducible apply At.box (d := 3)); exact rfl; exact rfl; exact rfl; intro b3) | ((with_reducible apply At.box (d := 4)); exact rfl; exact rfl; exact rfl; intro b4) | (refine zsp ?_ ?_ <;> (intro hc; (try simp only [zhcs, reduceCtorEq] at hc); (try (exfalso; first | (first | omega | exact absurd rfl hc) | contradiction | omega | exact absurd rfl hc | exact absurd (by decide) hc))))))
    all_goals ((with_reducible apply At.retV (B := [])); exact rfl; (repeat' (first | exact RVs.nil | (with_reducible apply RVs.cons) | exact rv_tmp (by rfl) | exact rv_cellN (by rfl) (by repeat constructor) (by rfl) (by rfl) (by rfl) | exact rv_cell1 (by rfl) (by repeat constructor) (by rfl) (by rfl) | exact rv_cellA (by rfl) (by repeat constructor) (by rfl) (by rfl) zlq)); exact zml; exact zkp; exact ⟨pc, dc, pn, dn, by rw [hnl]; rfl, sl3, sl4, rfl⟩)
end
end Td
end Go.Proofs.Ytijgnbedilipdaa
namespace Go.Proofs.Ytijgnbedilipdaa
open Go Go.J
namespace Td
open Dk Redo
structure Idle (h N : Nat) (S : List (List UInt8)) (n : Nat) (H : List (List UInt8)) : Prop where
  len : S.length = N
  ptr : S[0]! = ptxt n 0
  home : S.drop h = H
structure Full (t h N : Nat) (S : List (List UInt8)) (n : Nat) (l : List Chg) (W : List (List UInt8)) : Prop where
  len : S.length = N
  ptr : S[0]! = ptxt n l.length
  ix : S[1]! = pad (ixt l)
  log : ∀ i, i < l.length → S[t + i]! = l[i]!.t
  home : (pa S l).drop h = W
structure Good (t h N : Nat) (l : List Chg) : Prop where
  t2 : 2 ≤ t
  hN : h < N
  one : 1 ≤ l.length
  fit : t + l.length ≤ h
  few : l.length ≤ 120
  all : ∀ z ∈ l, (h : Int) ≤ z.s ∧ z.s < (N : Int) ∧ z.t.length = 512
theorem drop_eq {h : Nat} {S S' : List (List UInt8)} (hl : S.length = S'.length) (he : ∀ i, h ≤ i → i < S.length → S[i]! = S'[i]!) : S.drop h = S'.drop h :=
  Ls.ext! (by rw [List.length_drop, List.length_drop, hl]) fun i hi => by
    rw [List.length_drop] at hi
    rw [getElem!_pos (S.drop h) i (by rw [List.length_drop]; exact hi), getElem!_pos (S'.drop h) i (by rw [List.length_drop]; omega), List.getElem_drop, List.getElem_drop]
    have := he (h + i) (by omega) (by omega)
    rwa [getElem!_pos S (h + i) (by omega), getElem!_pos S' (h + i) (by omega)] at this
/-- what is put from a place on depends on what is from there on -/
theorem pa_from (h : Nat) : ∀ (l : List Chg) (S S' : List (List UInt8)), S.length = S'.length → (∀ i, h ≤ i → i < S.length → S[i]! = S'[i]!) → ∀ i, h ≤ i → i < S.length → (pa S l)[i]! = (pa S' l)[i]!
  | [], _, _, _, he, i, h1, h2 => he i h1 h2
  | z :: l, S, S', hl, he, i, h1, h2 => by
    refine pa_from h l (Dk.put S z) (Dk.put S' z) (by rw [Dk.put_len, Dk.put_len, hl]) (fun k h3 h4 => ?_) i h1 (by rw [Dk.put_len]; exact h2)
    rw [Dk.put_len] at h4
    rw [put_get _ _ _ h4, put_get _ _ _ (by omega), he k h3 h4]
theorem sub_one (S : List (List UInt8)) (x : Chg) (q : Nat → Bool) (k : Nat) : kpS S (([x] : List Chg).take k) q (([x] : List Chg).take k).length = S ∨ kpS S (([x] : List Chg).take k) q (([x] : List Chg).take k).length = Dk.put S x := by
  cases k with
  | zero => exact .inl rfl
  | succ k =>
    rw [List.take_succ_cons, List.take_nil]
    show (if q 0 = true then Dk.put S x else S) = S ∨ _ = _
    cases e : q 0
    · left; rfl
    · right; show (if q 0 = true then _ else _) = _; rw [e]; rfl
section
variable {t h N n : Nat} {S : List (List UInt8)} {l : List Chg} {H W : List (List UInt8)}
/-- the first group of a commit -/
abbrev g1c (t : Nat) (l : List Chg) : List Chg := shf (t : Int) l ++ [⟨1, pad (ixt l)⟩]
theorem g1_mem (hg : Good t h N l) {z : Chg} (hz : z ∈ g1c t l) : 1 ≤ z.s.toNat ∧ z.s.toNat < h ∧ 0 ≤ z.s := by
  have := hg.t2
  have := hg.one
  have := hg.fit
  rcases List.mem_append.1 hz with hz | hz
  · obtain ⟨i, hi, rfl⟩ := List.mem_iff_getElem.1 hz
    rw [shf_len] at hi
    rw [← getElem!_pos (shf (t : Int) l) i (by rw [shf_len]; exact hi), shf_get _ _ hi]
    dsimp only
    omega
  · rw [List.mem_singleton.1 hz]
    show 1 ≤ (1 : Int).toNat ∧ (1 : Int).toNat < h ∧ (0 : Int) ≤ 1
    exact ⟨by decide, by show 1 < h; omega, by decide⟩
theorem idle_g1 (hg : Good t h N l) (hi : Idle h N S n H) (q : Nat → Bool) (k : Nat) : Idle h N (kpS S ((g1c t l).take k) q ((g1c t l).take k).length) n H := by
  have hN := hg.hN
  have ho : ∀ i, i < S.length → (i = 0 ∨ h ≤ i) → (kpS S ((g1c t l).take k) q ((g1c t l).take k).length)[i]! = S[i]! := fun i hl hh => kpS_out S _ q i hl _ fun j hj => by
    have := g1_mem hg (List.mem_of_mem_take (Ls.mem! hj))
    omega
  refine ⟨by rw [kpS_len]; exact hi.len, ?_, ?_⟩
  · rw [ho 0 (by rw [hi.len]; omega) (.inl rfl)]; exact hi.ptr
  · rw [← hi.home]
    exact drop_eq (kpS_len ..) fun i h1 h2 => ho i (by rwa [kpS_len] at h2) (.inr h1)
theorem log_g1 (hg : Good t h N l) (hl : S.length = N) : (pa S (g1c t l))[1]! = pad (ixt l) ∧ ∀ i, i < l.length → (pa S (g1c t l))[t + i]! = l[i]!.t := by
  have := hg.t2
  have := hg.fit
  have := hg.hN
  rw [pa_append, pa_one]
  refine ⟨?_, fun i hi => ?_⟩
  · rw [put_get _ _ _ (by rw [pa_len]; omega)]; rfl
  · rw [put_get _ _ _ (by rw [pa_len]; omega), if_neg (by show ¬ (1 : Int).toNat = t + i; show ¬ 1 = t + i; omega)]
    have hs := shf_get (t : Int) l hi
    have := pa_at S (shf (t : Int) l) i (by rw [shf_len]; exact hi) (by rw [hs]; dsimp only; omega) fun k h1 h2 => by
      rw [shf_len] at h2
      rw [hs, shf_get _ _ h2]; dsimp only; omega
    rw [hs] at this
    dsimp only at this
    rwa [show ((t : Int) + (i : Int)).toNat = t + i by omega] at this
theorem full_of (hg : Good t h N l) (hi : Idle h N S n H) : Full t h N (Dk.put (pa S (g1c t l)) (pch (n + 1) l.length)) (n + 1) l ((pa S l).drop h) := by
  have := hg.t2
  have := hg.fit
  have := hg.hN
  obtain ⟨h1, h2⟩ := log_g1 hg hi.len
  have hle : (pa S (g1c t l)).length = N := by rw [pa_len]; exact hi.len
  have hp : ∀ i, i < N → (Dk.put (pa S (g1c t l)) (pch (n + 1) l.length))[i]! = if 0 = i then ptxt (n + 1) l.length else (pa S (g1c t l))[i]! := fun i hi => put_get _ _ _ (by omega)
  refine ⟨by rw [Dk.put_len]; exact hle, by rw [hp 0 (by omega), if_pos rfl], by rw [hp 1 (by omega), if_neg (by decide)]; exact h1, fun i hi => by rw [hp _ (by omega), if_neg (by omega)]; exact h2 i hi, ?_⟩
  refine drop_eq (by rw [pa_len, pa_len, Dk.put_len, pa_len]) fun i hi1 hi2 => ?_
  rw [pa_len, Dk.put_len, pa_len] at hi2
  refine pa_from h l _ _ (by rw [Dk.put_len, pa_len]) (fun k h3 h4 => ?_) i hi1 (by rw [Dk.put_len, pa_len]; exact hi2)
  rw [Dk.put_len, pa_len] at h4
  rw [hp k (by rw [← hi.len]; exact h4), if_neg (by omega)]
  refine pa_out _ _ _ h4 fun z hz => ?_
  have := g1_mem hg hz
  omega
theorem full_sub (hg : Good t h N l) (hf : Full t h N S n l W) (q : Nat → Bool) (k : Nat) : Full t h N (kpS S (l.take k) q (l.take k).length) n l W := by
  have := hg.t2
  have := hg.fit
  have := hg.hN
  have ho : ∀ i, i < h → (kpS S (l.take k) q (l.take k).length)[i]! = S[i]! := fun i hh => kpS_out S _ q i (by rw [hf.len]; omega) _ fun j hj => by
    have := (hg.all _ (List.mem_of_mem_take (Ls.mem! hj))).1
    omega
  refine ⟨by rw [kpS_len]; exact hf.len, by rw [ho 0 (by omega)]; exact hf.ptr, by rw [ho 1 (by omega)]; exact hf.ix, fun i hi => by rw [ho _ (by omega)]; exact hf.log i hi, ?_⟩
  have e : pa (kpS S (l.take k) q (l.take k).length) l = pa S l := by
    refine pa_same l _ _ (kpS_len ..) fun i hi hn => ?_
    rw [kpS_len] at hi
    exact kpS_out S _ q i hi _ fun j hj => hn _ (List.mem_of_mem_take (Ls.mem! hj))
  rw [e]; exact hf.home
theorem full_all (hg : Good t h N l) (hf : Full t h N S n l W) : Full t h N (pa S l) n l W := by
  have := full_sub hg hf (fun _ => true) l.length
  rwa [List.take_length, kpS_all _ _ _ (Nat.le_refl _), List.take_length] at this
theorem idle_end (hg : Good t h N l) (hf : Full t h N S n l W) : Idle h N (Dk.put (pa S l) (pch n 0)) n W := by
  have := hg.t2
  have := hg.fit
  have := hg.hN
  have hl := hf.len
  have hle : (pa S l).length = N := by rw [pa_len]; exact hl
  refine ⟨by rw [Dk.put_len]; exact hle, by rw [put_get _ _ _ (by omega)]; rfl, ?_⟩
  rw [← hf.home]
  refine drop_eq (by rw [Dk.put_len]) fun i h1 h2 => ?_
  rw [Dk.put_len] at h2
  rw [put_get _ _ _ h2, if_neg (by show ¬ (0 : Int).toNat = i; show ¬ 0 = i; omega)]
end
end Td
end Go.Proofs.Ytijgnbedilipdaa
namespace Go.Proofs.Ytijgnbedilipdaa
open Go Go.J
namespace Td
open Dk Redo
section
variable {t h N n : Nat} {D : Dsk} {l : List Chg} {H W : List (List UInt8)}
theorem Idle.of_eq {S S' : List (List UInt8)} (e : S' = S) (x : Idle h N S n H) : Idle h N S' n H := e ▸ x
theorem Full.of_eq {S S' : List (List UInt8)} (e : S' = S) (x : Full t h N S n l W) : Full t h N S' n l W := e ▸ x
/-- what may be where it stopped -/
abbrev St (t h N n : Nat) (l : List Chg) (H W : List (List UInt8)) (S : List (List UInt8)) : Prop := Idle h N S n H ∨ Full t h N S (n + 1) l W ∨ Idle h N S (n + 1) W
/-- it went down, and what is up then is one of those -/
structure Dn (N : Nat) (D : Dsk) (R : List (List UInt8) → Prop) : Prop where
  okD : ok D
  few : D.pend.length ≤ 1000
  len : D.safe.length = N
  st : ∀ q, R (kpS D.safe D.pend q D.pend.length)
theorem pch_ok (hN : D.safe.length = N) (h0 : 0 < N) (n k : Nat) : has D (pch n k).s ∧ (pch n k).t.length = 512 := ⟨⟨by show (0 : Int) ≤ 0; decide, by show (0 : Int) < D.safe.length; omega⟩, ptxt_len n k⟩
theorem cmt_ok (hg : Good t h N l) (hN : D.safe.length = N) : ∀ k ∈ cmt (t : Int) n l, ∀ z ∈ k, has D z.s ∧ z.t.length = 512 := fun k hk z hz => by
  have := hg.hN
  have hl : ∀ z ∈ l, has D z.s ∧ z.t.length = 512 := fun z hz => by
    have := hg.all z hz
    exact ⟨⟨by omega, by omega⟩, this.2.2⟩
  unfold cmt at hk
  simp only [List.mem_cons, List.not_mem_nil, or_false] at hk
  rcases hk with rfl | rfl | rfl | rfl
  · have hm := g1_mem hg hz
    refine ⟨⟨by omega, by omega⟩, ?_⟩
    rcases List.mem_append.1 hz with hz | hz
    · obtain ⟨i, hi, rfl⟩ := List.mem_iff_getElem.1 hz
      rw [shf_len] at hi
      rw [← getElem!_pos (shf (t : Int) l) i (by rw [shf_len]; exact hi), shf_get _ _ hi]
      exact (hg.all _ (Ls.mem! hi)).2.2
    · rw [List.mem_singleton.1 hz]
      exact pad_len (by rw [ixt_len]; have := hg.few; omega)
  · rw [List.mem_singleton.1 hz]; exact pch_ok hN (by omega) _ _
  · exact hl z hz
  · rw [List.mem_singleton.1 hz]; exact pch_ok hN (by omega) _ _
theorem pg_len : ∀ (G : List (List Chg)) (S : List (List UInt8)), (pg S G).length = S.length
  | [], _ => rfl
  | l :: G, S => by show (pg (pa S l) G).length = _; rw [pg_len G, pa_len]
theorem dn_of {G : List (List Chg)} {j k : Nat} {R : List (List UInt8) → Prop} (hj : j < G.length) (hk : k ≤ G[j]!.length) (hz : ∀ l ∈ G, ∀ z ∈ l, has D z.s ∧ z.t.length = 512) (hl : ∀ l ∈ G, l.length ≤ 1000) (hN : D.safe.length = N)
    (hst : ∀ q, R (kpS (pg D.safe (G.take j)) (G[j]!.take k) q (G[j]!.take k).length)) : Dn N ⟨pg D.safe (G.take j), G[j]!.take k, 0, true⟩ R where
  okD := fun x hx => by
    have := hz _ (Ls.mem! hj) x (List.mem_of_mem_take hx)
    unfold has at this ⊢
    dsimp only
    rw [pg_len]
    exact this
  few := by
    have := hl _ (Ls.mem! hj)
    dsimp only
    rw [List.length_take]; omega
  len := by dsimp only; rw [pg_len]; exact hN
  st := hst
theorem commit_out (hd : D.down = false) (ha : 0 ≤ D.arm) (hp : D.pend = []) (hg : Good t h N l) (hi : Idle h N D.safe n H) :
    (∃ S' a', stepsP D (cmt (t : Int) n l) = (⟨S', [], a', false⟩, 0) ∧ 0 ≤ a' ∧ a' ≤ D.arm ∧ Idle h N S' (n + 1) ((pa D.safe l).drop h)) ∨
    (0 < D.arm ∧ ∃ D', stepsP D (cmt (t : Int) n l) = (D', 14) ∧ Dn N D' (St t h N n l H ((pa D.safe l).drop h))) := by
  have hz := cmt_ok (n := n) (D := D) hg hi.len
  have hfull := full_of hg hi
  have hfew := hg.few
  have hlen : ∀ k ∈ cmt (t : Int) n l, k.length ≤ 1000 := fun k hk => by
    unfold cmt at hk
    simp only [List.mem_cons, List.not_mem_nil, or_false] at hk
    rcases hk with rfl | rfl | rfl | rfl
    · rw [List.length_append, shf_len, List.length_singleton]; omega
    · show 1 ≤ 1000; decide
    · omega
    · show 1 ≤ 1000; decide
  have hid : Idle h N (pa D.safe (g1c t l)) n H := by
    have := idle_g1 hg hi (fun _ => true) (g1c t l).length
    rwa [List.take_length, kpS_all _ _ _ (Nat.le_refl _), List.take_length] at this
  rcases steps_out (cmt (t : Int) n l) D hd ha hp hz with ⟨a', e, e1, e2⟩ | ⟨h1, j, k, hj, hk, e⟩
  · exact .inl ⟨_, a', e, e1, e2, idle_end hg hfull⟩
  · refine .inr ⟨h1, _, e, dn_of hj hk hz hlen hi.len fun q => ?_⟩
    have hj4 : j < 4 := hj
    match j, hj4 with
    | 0, _ => exact .inl (idle_g1 hg hi q k)
    | 1, _ =>
      rcases sub_one (pa D.safe (g1c t l)) (pch (n + 1) l.length) q k with e | e
      · exact .inl (Idle.of_eq e (hid))
      · exact .inr (.inl (Full.of_eq e (hfull)))
    | 2, _ => exact .inr (.inl (full_sub hg hfull q k))
    | 3, _ =>
      rcases sub_one (pa (Dk.put (pa D.safe (g1c t l)) (pch (n + 1) l.length)) l) (pch (n + 1) 0) q k with e | e
      · exact .inr (.inl (Full.of_eq e (full_all hg hfull)))
      · exact .inr (.inr (Idle.of_eq e (idle_end hg hfull)))
theorem rec_out (hd : D.down = false) (ha : 0 ≤ D.arm) (hp : D.pend = []) (hg : Good t h N l) (hf : Full t h N D.safe n l W) :
    (∃ S' a', stepsP D [l, [pch n 0]] = (⟨S', [], a', false⟩, 0) ∧ 0 ≤ a' ∧ a' ≤ D.arm ∧ Idle h N S' n W) ∨
    (0 < D.arm ∧ ∃ D', stepsP D [l, [pch n 0]] = (D', 14) ∧ Dn N D' (fun S => Full t h N S n l W ∨ Idle h N S n W)) := by
  have hN := hg.hN
  have hz : ∀ k ∈ [l, [pch n 0]], ∀ z ∈ k, has D z.s ∧ z.t.length = 512 := fun k hk z hz => by
    have hlen := hf.len
    simp only [List.mem_cons, List.not_mem_nil, or_false] at hk
    rcases hk with rfl | rfl
    · have := hg.all z hz
      exact ⟨⟨by omega, by omega⟩, this.2.2⟩
    · rw [List.mem_singleton.1 hz]; exact pch_ok hlen (by omega) _ _
  have hlen : ∀ k ∈ [l, [pch n 0]], k.length ≤ 1000 := fun k hk => by
    have := hg.few
    simp only [List.mem_cons, List.not_mem_nil, or_false] at hk
    rcases hk with rfl | rfl
    · omega
    · show 1 ≤ 1000; decide
  rcases steps_out [l, [pch n 0]] D hd ha hp hz with ⟨a', e, e1, e2⟩ | ⟨h1, j, k, hj, hk, e⟩
  · exact .inl ⟨_, a', e, e1, e2, idle_end hg hf⟩
  · refine .inr ⟨h1, _, e, dn_of hj hk hz hlen hf.len fun q => ?_⟩
    have hj2 : j < 2 := hj
    match j, hj2 with
    | 0, _ => exact .inl (full_sub hg hf q k)
    | 1, _ =>
      rcases sub_one (pa D.safe l) (pch n 0) q k with e | e
      · exact .inl (Full.of_eq e (full_all hg hf))
      · exact .inr (Idle.of_eq e (idle_end hg hf))
/-- where nothing was armed nothing stops -/
theorem not_armed {P : Prop} {α : Prop} (h : D.arm = 0) (ho : α ∨ (0 < D.arm ∧ P)) : α := ho.elim id fun h' => by rw [h] at h'; exact absurd h'.1 (by decide)
end
end Td
end Go.Proofs.Ytijgnbedilipdaa
namespace Go.Proofs.Ytijgnbedilipdaa
open Go Go.J
namespace Td
open Dk Redo
section
variable {t h N n : Nat} {D : Dsk} {H : List (List UInt8)}
theorem format_out (hd : D.down = false) (ha : D.arm = 0) (hp : D.pend = []) (hN : D.safe.length = N) (h1 : 1 ≤ h) (hH : h + H.length = N) (h0 : 1 ≤ H.length) (h5 : ∀ x ∈ H, x.length = 512) :
    ∃ S' a', stepsP D (fmt (h : Int) H) = (⟨S', [], a', false⟩, 0) ∧ 0 ≤ a' ∧ a' ≤ D.arm ∧ Idle h N S' 1 H := by
  have hcl := fch_len (h : Int) H
  have hf : ∀ z ∈ fch (h : Int) H, has D z.s ∧ z.t.length = 512 := fun z hz => by
    obtain ⟨i, hi, rfl⟩ := List.mem_iff_getElem.1 hz
    rw [hcl] at hi
    rw [← getElem!_pos (fch (h : Int) H) i (by rw [hcl]; exact hi), fch_get _ _ hi]
    exact ⟨⟨by dsimp only; omega, by dsimp only; omega⟩, h5 _ (Ls.mem! hi)⟩
  have hz : ∀ k ∈ fmt (h : Int) H, ∀ z ∈ k, has D z.s ∧ z.t.length = 512 := fun k hk z hz => by
    unfold fmt at hk
    simp only [List.mem_cons, List.not_mem_nil, or_false] at hk
    rcases hk with rfl | rfl
    · exact hf z (List.mem_of_mem_drop hz)
    · rcases List.mem_cons.1 hz with rfl | hz
      · exact pch_ok hN (by omega) _ _
      · rw [List.mem_singleton.1 hz]; exact hf _ (Ls.mem! (by rw [hcl]; omega))
  obtain ⟨a', e, ea, eb⟩ := not_armed ha (steps_out (fmt (h : Int) H) D hd (by omega) hp hz)
  refine ⟨_, a', e, ea, eb, ?_⟩
  show Idle h N (Dk.put (Dk.put (pa D.safe ((fch (h : Int) H).drop 1)) (pch 1 0)) (fch (h : Int) H)[0]!) 1 H
  have hle : (pa D.safe ((fch (h : Int) H).drop 1)).length = N := by rw [pa_len]; exact hN
  have hle2 : (Dk.put (pa D.safe ((fch (h : Int) H).drop 1)) (pch 1 0)).length = N := by rw [Dk.put_len]; exact hle
  rw [fch_get _ _ (show 0 < H.length by omega)]
  refine ⟨by rw [Dk.put_len]; exact hle2, ?_, ?_⟩
  · rw [put_get _ _ _ (by omega), if_neg (by dsimp only; omega), put_get _ _ _ (by omega)]; rfl
  · refine Ls.ext! (by rw [List.length_drop, Dk.put_len, hle2]; omega) fun j hj => ?_
    rw [List.length_drop, Dk.put_len, hle2] at hj
    rw [getElem!_pos (List.drop _ _) j (by rw [List.length_drop, Dk.put_len, hle2]; exact hj), List.getElem_drop, ← getElem!_pos _ (h + j) (by rw [Dk.put_len, hle2]; omega)]
    rw [put_get _ _ _ (by omega)]
    by_cases hj0 : j = 0
    · subst hj0
      rw [if_pos (by dsimp only; omega)]
    · rw [if_neg (by dsimp only; omega), put_get _ _ _ (by omega), if_neg (by show ¬ (0 : Int).toNat = h + j; show ¬ 0 = h + j; omega)]
      have hg : ∀ i, i + 1 < H.length → ((fch (h : Int) H).drop 1)[i]! = ⟨(h : Int) + ((i + 1 : Nat) : Int), H[i + 1]!⟩ := fun i hi => by
        rw [getElem!_pos _ i (by rw [List.length_drop, hcl]; omega), List.getElem_drop, ← getElem!_pos (fch (h : Int) H) (1 + i) (by rw [hcl]; omega), show 1 + i = i + 1 by omega]
        exact fch_get _ _ hi
      have hgj := hg (j - 1) (by omega)
      rw [show j - 1 + 1 = j by omega] at hgj
      have := pa_at D.safe ((fch (h : Int) H).drop 1) (j - 1) (by rw [List.length_drop, hcl]; omega) (by rw [hgj]; dsimp only; omega) fun k h2 h3 => by
        rw [List.length_drop, hcl] at h3
        rw [hgj, hg k (by omega)]
        dsimp only; omega
      rw [hgj] at this
      dsimp only at this
      rwa [show ((h : Int) + (j : Int)).toNat = h + j by omega] at this
theorem put_drop (X : List (List UInt8)) (k : Nat) (x : List UInt8) : (Dk.put X ⟨(h : Int) + (k : Int), x⟩).drop h = (X.drop h).set k x := by
  unfold Dk.put
  dsimp only
  rw [show ((h : Int) + (k : Int)).toNat = h + k by omega]
  refine (Ls.ext! (by rw [List.length_set, List.length_drop, List.length_drop, List.length_set]) fun i hi => ?_)
  rw [List.length_drop, List.length_set] at hi
  rw [getElem!_pos (List.drop _ _) i (by rw [List.length_drop, List.length_set]; exact hi), getElem!_pos (List.set _ _ _) i (by rw [List.length_set, List.length_drop]; exact hi), List.getElem_drop, List.getElem_set, List.getElem_set, List.getElem_drop]
  by_cases e : k = i
  · rw [if_pos e, if_pos (by omega)]
  · rw [if_neg e, if_neg (by omega)]
theorem now_drop (S : List (List UInt8)) (by_ : Int) (L : List Nat) : ∀ j, (pa S (chP (h : Int) by_ L (S.drop h).length j)).drop h = nowP by_ L (S.drop h) j
  | 0 => rfl
  | j + 1 => by
    rw [chP_snoc, pa_append, pa_one, put_drop, now_drop S by_ L j]
    rfl
theorem tb_len (b : Int) (i : Nat) : (tb b i).length = 512 := t13_len _
theorem nowP_512 (by_ : Int) (L : List Nat) (h5 : ∀ x ∈ H, x.length = 512) : ∀ j, ∀ x ∈ nowP by_ L H j, x.length = 512
  | 0 => h5
  | j + 1 => fun x hx => by
    rcases List.mem_or_eq_of_mem_set hx with hx | rfl
    · exact nowP_512 by_ L h5 j x hx
    · exact tb_len ..
theorem hom_512 (b : Int) (k : Nat) : ∀ x ∈ hom b k, x.length = 512 := fun x hx => by
  unfold hom at hx
  obtain ⟨i, _, rfl⟩ := List.mem_map.1 hx
  exact tb_len ..
theorem good_of (L : List Nat) (by_ : Int) (h2 : 2 ≤ t) (hN : h < N) (h1 : 1 ≤ L.length) (hf : t + L.length ≤ h) (h120 : L.length ≤ 120) : Good t h N (chP (h : Int) by_ L (N - h) L.length) where
  t2 := h2
  hN := hN
  one := by rw [chP_len]; exact h1
  fit := by rw [chP_len]; exact hf
  few := by rw [chP_len]; exact h120
  all := fun z hz => by
    unfold chP at hz
    obtain ⟨i, _, rfl⟩ := List.mem_map.1 hz
    have := Nat.mod_lt (L[i]!) (show 0 < N - h by omega)
    exact ⟨by dsimp only; omega, by dsimp only; omega, tb_len ..⟩
end
end Td
end Go.Proofs.Ytijgnbedilipdaa
namespace Go.Proofs.Ytijgnbedilipdaa
open Go Go.J
attribute [local irreducible] At AtQ AtM AtM1 PR Ct Pu Rd Res.blk Res.own Res.ex Res.obj RVs RV CW LW YC BK bodyPostM roundPost Dk.R Cod.W
namespace Td
open Dk Conf Redo
instance : Inhabited Cm := ⟨⟨none, 0, [], 0, 0, none, 0, [], 0, none, 0, []⟩⟩
instance : Fl Cm.cells 6 := ⟨fun _ => rfl, fun _ v h => by simp [Cm.cells] at h; rcases h with rfl | rfl | rfl | rfl | rfl | rfl <;> rfl, by decide⟩
section
variable {r a b e x y w c g : Int}
theorem sizeN (h : ¬ Ok r a b e x y w c g) : Pu Try.prog 7 #[kv r a b e x y w c g] (.tuple #[.int .i64 0, .int .i64 2]) := Pu.intro fun m => by
  have k1 := checkN h
  refine Ct.enterV (by rfl) Try.func7 rfl Try.ntmps7 rfl (fun w0 Rest => ?_)
  (repeat' (first | refine zss ?_ | ((first | (with_reducible first | apply At.val | apply AtQ.val)); (exact zprA); exact rfl) | refine zs0 ?_ | ((with_reducible first | apply AtM1.callp | apply AtQ.callp | apply At.callp); kernel_rfl; exact rfl; exact rfl; exact k1) | ((with_reducible apply At.box (d := 1)); exact rfl; exact rfl; exact rfl; intro b1) | (refine zsp ?_ ?_ <;> (intro hc; (try simp only [zhcs, reduceCtorEq] at hc); (try (exfalso; first | (first | omega | exact absurd rfl hc) | contradiction | omega | exact absurd rfl hc | exact absurd (by decide) hc))))))
  all_goals ((with_reducible apply At.retV (B := [])); exact rfl; (repeat' (first | exact RVs.nil | (with_reducible apply RVs.cons) | exact rv_tmp (by rfl) | exact rv_cellN (by rfl) (by repeat constructor) (by rfl) (by rfl) (by rfl) | exact rv_cell1 (by rfl) (by repeat constructor) (by rfl) (by rfl) | exact rv_cellA (by rfl) (by repeat constructor) (by rfl) (by rfl) zlq)); exact zml; exact zkp; exact ⟨rfl, rfl, rfl⟩)
/-- commits are few and small, a configuration is right and small -/
structure Ft (r a b e x y w c g : Int) (l : List Cm) : Prop where
  ok : Ok r a b e x y w c g
  sz : szv r x y w c g ≤ 120
  hm : hmv g < szv r x y w c g
  few : l.length ≤ 8
  small : ∀ i, i < l.length → (l[i]!.L.length : Int) ≤ min g 40
theorem fits {m : Mem} (p : Option Addr) (d : Nat) (l : List Cm) (hl : l.length ≤ 9223372036854775807) (sl0 : Sl m Cm.cells 6 p d l) (hll : ∀ z ∈ l, z.L.length ≤ 9223372036854775807) :
    Ct Try.prog 6 #[kv r a b e x y w c g, .slice p l.length d] m [] (fun v m' B => ∃ q : Bool, v = .bool q ∧ (q = true ↔ Ft r a b e x y w c g l) ∧ m = m' ∧ B = []) := by
  by_cases hg : Ok r a b e x y w c g
  · have k2 := homeF hg
    have hbb := hm_bd hg
    have hgb := hg.hg
    have k1 := sizeF hg
    have hft : ∀ q : Bool, (q = true ↔ (szv r x y w c g ≤ 120 ∧ hmv g < szv r x y w c g ∧ l.length ≤ 8 ∧ ∀ i, i < l.length → (l[i]!.L.length : Int) ≤ min g 40)) → (q = true ↔ Ft r a b e x y w c g l) := fun q h => h.trans ⟨fun h => ⟨hg, h.1, h.2.1, h.2.2.1, h.2.2.2⟩, fun h => ⟨h.sz, h.hm, h.few, h.small⟩⟩
    refine Ct.mono (R := fun v m' B => ∃ q : Bool, v = .bool q ∧ (q = true ↔ (szv r x y w c g ≤ 120 ∧ hmv g < szv r x y w c g ∧ l.length ≤ 8 ∧ ∀ i, i < l.length → (l[i]!.L.length : Int) ≤ min g 40)) ∧ m = m' ∧ B = []) ?_ fun v m' B _ ⟨q, h1, h2, h3⟩ => ⟨q, h1, hft q h2, h3⟩
    clear hft
    generalize szv r x y w c g = N at k1 ⊢
    generalize hmv g = H at k2 hbb ⊢
    by_cases hb : 16777216 < N
    · rw [if_pos hb] at k1
      refine Ct.enterV (by rfl) Try.func6 rfl Try.ntmps6 rfl (fun w0 Rest => ?_)
      (repeat' (first | refine zss ?_ | ((first | (with_reducible first | apply At.val | apply AtQ.val)); (exact zprA); exact rfl) | refine zs0 ?_ | ((with_reducible first | apply AtM1.callp | apply AtQ.callp | apply At.callp); kernel_rfl; exact rfl; exact rfl; exact k1) | ((with_reducible apply At.box (d := 2)); exact rfl; exact rfl; exact rfl; intro b2) | ((with_reducible apply At.alloc (d := 8)); exact rfl; exact rfl; intro b8) | (refine zsp ?_ ?_ <;> (intro hc; (try simp only [zhcs, reduceCtorEq] at hc); (try (exfalso; first | (first | omega | exact absurd rfl hc) | contradiction | omega | exact absurd rfl hc | exact absurd (by decide) hc))))))
      all_goals ((with_reducible apply At.retB1 (B := [])); exact rfl; exact rfl; exact zml; exact zkp; exact ⟨false, rfl, ⟨(fun h => by cases h), (fun h => by have := h.1; omega)⟩, rfl, rfl⟩)
    · rw [if_neg hb] at k1
      refine Ct.enterV (by rfl) Try.func6 rfl Try.ntmps6 rfl (fun w0 Rest => ?_)
      (repeat' (first | refine zss ?_ | ((first | (with_reducible first | apply At.val | apply AtQ.val)); (exact zprA); exact rfl) | refine zs0 ?_ | ((with_reducible first | apply AtM1.callp | apply AtQ.callp | apply At.callp); kernel_rfl; exact rfl; exact rfl; exact k1) | ((with_reducible first | apply AtM1.callp | apply AtQ.callp | apply At.callp); kernel_rfl; exact rfl; exact rfl; exact k2) | ((with_reducible apply At.box (d := 2)); exact rfl; exact rfl; exact rfl; intro b2) | ((with_reducible apply At.alloc (d := 8)); exact rfl; exact rfl; intro b8) | (refine zsp ?_ ?_ <;> (intro hc; (try simp only [zhcs, reduceCtorEq] at hc); (try (exfalso; first | (first | omega | exact absurd rfl hc) | contradiction | omega | exact absurd rfl hc | exact absurd (by decide) hc))))))
      all_goals try (((with_reducible apply At.retB1 (B := [])); exact rfl; exact rfl; exact zml; exact zkp; exact ⟨false, rfl, ⟨(fun h => by cases h), (fun h => by obtain ⟨e1, e2, e3, _⟩ := h; omega)⟩, rfl, rfl⟩); done)
      (refine At.loopk (σ := Nat) [2, 31, 32] (fun s F0 => (33, .int .i64 (s : Int)) :: F0) (fun s => m) (fun s => .blk b2 25 [gi r, gi a, gi b, gi e, gi x, gi y, gi w, gi c, gi g] :: Rest) (fun s => s ≤ l.length ∧ ∀ i, i < s → (l[i]!.L.length : Int) ≤ min g 40) (fun s => l.length - s) 0 (by rfl) ?_ zsubs zml zente ?_)
      · exact ⟨Nat.zero_le _, fun i hi => absurd hi (Nat.not_lt_zero _)⟩
      rintro j ⟨hj, heq⟩
      by_cases h0 : j < l.length
      · have hlj := hll _ (Ls.mem! h0)
        by_cases h1 : (l[j]!.L.length : Int) ≤ min g 40
        · (repeat' (first | refine zss ?_ | ((first | (with_reducible first | apply At.val | apply AtQ.val)); (exact zprA); exact rfl) | refine zsM ?_ | ((with_reducible apply At.box (d := 2)); exact rfl; exact rfl; exact rfl; intro b2) | ((with_reducible apply At.alloc (d := 8)); exact rfl; exact rfl; intro b8) | (refine zsp ?_ ?_ <;> (intro hc; (try simp only [zhcs, reduceCtorEq] at hc); (try (exfalso; first | (first | omega | exact absurd rfl hc) | contradiction | omega | exact absurd rfl hc | exact absurd (by decide) hc))))))
          all_goals ((with_reducible refine At.reachk (j + 1) ?_ ?_ ?_ ?_); exact zsubs; exact zml; exact zente; exact ⟨⟨h0, fun i hi => by rcases Nat.lt_or_ge i j with h' | h'; exact heq i h'; rw [show i = j by omega]; exact h1⟩, by omega⟩)
        · (repeat' (first | refine zss ?_ | ((first | (with_reducible first | apply At.val | apply AtQ.val)); (exact zprA); exact rfl) | refine zsM ?_ | ((with_reducible apply At.box (d := 2)); exact rfl; exact rfl; exact rfl; intro b2) | ((with_reducible apply At.alloc (d := 8)); exact rfl; exact rfl; intro b8) | (refine zsp ?_ ?_ <;> (intro hc; (try simp only [zhcs, reduceCtorEq] at hc); (try (exfalso; first | (first | omega | exact absurd rfl hc) | contradiction | omega | exact absurd rfl hc | exact absurd (by decide) hc))))))
          all_goals ((with_reducible apply At.retB1 (B := [])); exact rfl; exact rfl; exact zml; exact zkp; exact ⟨false, rfl, ⟨(fun h => by cases h), (fun h => absurd (h.2.2.2 j h0) h1)⟩, rfl, rfl⟩)
      · obtain rfl : j = l.length := by omega
        (repeat' (first | refine zss ?_ | ((first | (with_reducible first | apply At.val | apply AtQ.val)); (exact zprA); exact rfl) | refine zs0 ?_ | ((with_reducible apply At.box (d := 2)); exact rfl; exact rfl; exact rfl; intro b2) | ((with_reducible apply At.alloc (d := 8)); exact rfl; exact rfl; intro b8) | (refine zsp ?_ ?_ <;> (intro hc; (try simp only [zhcs, reduceCtorEq] at hc); (try (exfalso; first | (first | omega | exact absurd rfl hc) | contradiction | omega | exact absurd rfl hc | exact absurd (by decide) hc))))))
        all_goals ((with_reducible apply At.retB1 (B := [])); exact rfl; exact rfl; exact zml; exact zkp; exact ⟨true, rfl, ⟨(fun _ => ⟨by omega, by omega, by omega, heq⟩), (fun _ => rfl)⟩, rfl, rfl⟩)
  · have k1 := sizeN hg
    refine Ct.enterV (by rfl) Try.func6 rfl Try.ntmps6 rfl (fun w0 Rest => ?_)
    (repeat' (first | refine zss ?_ | ((first | (with_reducible first | apply At.val | apply AtQ.val)); (exact zprA); exact rfl) | refine zs0 ?_ | ((with_reducible first | apply AtM1.callp | apply AtQ.callp | apply At.callp); kernel_rfl; exact rfl; exact rfl; exact k1) | ((with_reducible apply At.box (d := 2)); exact rfl; exact rfl; exact rfl; intro b2) | ((with_reducible apply At.alloc (d := 8)); exact rfl; exact rfl; intro b8) | (refine zsp ?_ ?_ <;> (intro hc; (try simp only [zhcs, reduceCtorEq] at hc); (try (exfalso; first | (first | omega | exact absurd rfl hc) | contradiction | omega | exact absurd rfl hc | exact absurd (by decide) hc))))))
    all_goals ((with_reducible apply At.retB1 (B := [])); exact rfl; exact rfl; exact zml; exact zkp; exact ⟨false, rfl, ⟨(fun h => by cases h), (fun h => absurd h.ok hg)⟩, rfl, rfl⟩)
end
end Td
end Go.Proofs.Ytijgnbedilipdaa
namespace Go.Proofs.Ytijgnbedilipdaa
open Go Go.J
attribute [local irreducible] At AtQ AtM AtM1 PR Ct Pu Rd Res.blk Res.own Res.ex Res.obj RVs RV CW LW YC BK bodyPostM roundPost Dk.R Cod.W
namespace Td
open Dk Conf Redo
/-- a configuration that fits, in numbers -/
structure Env (r a b e x y w c g : Int) (t h N : Nat) : Prop where
  ok : Ok r a b e x y w c g
  sz : szv r x y w c g = (N : Int)
  ht : 1 + ixv g = (t : Int)
  hh : hmv g = (h : Int)
  hN : h < N
  few : N ≤ 120
/-- a disk at rest -/
structure Rst (h N : Nat) (D : Dsk) (n : Nat) (H : List (List UInt8)) : Prop where
  down : D.down = false
  pend : D.pend = []
  arm0 : 0 ≤ D.arm
  arm1 : D.arm ≤ 9223372036854775807
  idle : Idle h N D.safe n H
section
variable {r a b e x y w c g : Int} {t h N n : Nat} {H : List (List UInt8)}
theorem Env.num (v : Env r a b e x y w c g t h N) : 2 ≤ t ∧ (h : Int) = t + g ∧ 1 ≤ g ∧ 0 < N := by
  have h1 := v.ok.hg
  obtain ⟨h2, h3, h4⟩ := hm_bd v.ok
  have := v.ht
  have := v.hh
  have := v.hN
  omega
theorem Rst.fit {D : Dsk} (v : Env r a b e x y w c g t h N) (q : Rst h N D n H) : Fit D 0 :=
  ⟨q.arm1, by rw [q.pend]; exact Nat.zero_le _, by rw [q.idle.len]; have := v.few; omega, fun z hz => by rw [q.pend] at hz; cases hz⟩
theorem Rst.hl {D : Dsk} (v : Env r a b e x y w c g t h N) (q : Rst h N D n H) : D.safe.length ≤ 1000000 := by rw [q.idle.len]; have := v.few; omega
theorem Rst.hH {D : Dsk} (q : Rst h N D n H) : H.length = N - h := by rw [← q.idle.home, List.length_drop, q.idle.len]
theorem commitE {m : Mem} (v : Env r a b e x y w c g t h N) (d0 : Nat) (D : Dsk) (p : Option Addr) (d : Nat) (q : Rst h N D n H) (hn : n < 1000) (sl0 : Sl m fC 2 p d []) :
    Ct Try.prog 12 #[ptr d0, kv r a b e x y w c g, .slice p 0 d] m [R d0 D] (fun v m' B => v = .int .i64 0 ∧ B = [R d0 D]) := by
  have := v.num
  exact commit0 d0 n D p d v.ok (by rw [v.sz, q.idle.len]) (q.hl v) q.down q.pend (by rw [q.idle.len]; omega) (by omega) q.idle.ptr sl0
theorem commitN {m : Mem} (v : Env r a b e x y w c g t h N) (d0 : Nat) (D : Dsk) (p : Option Addr) (d : Nat) (by_ : Int) (L : List Nat) (q : Rst h N D n H) (hn : n < 1000) (h1 : 1 ≤ L.length) (hL : (L.length : Int) ≤ g) (sl0 : Sl m fC 2 p d (chP (h : Int) by_ L (N - h) L.length)) :
    Ct Try.prog 12 #[ptr d0, kv r a b e x y w c g, .slice p (chP (h : Int) by_ L (N - h) L.length).length d] m [R d0 D] (fun v m' B =>
      (v = .int .i64 0 ∧ ∃ D', B = [R d0 D'] ∧ Rst h N D' (n + 1) (nowP by_ L H L.length) ∧ (D.arm = 0 → D'.arm = 0)) ∨
      (v = .int .i64 14 ∧ 0 < D.arm ∧ ∃ D', B = [R d0 D'] ∧ Dn N D' (St t h N n (chP (h : Int) by_ L (N - h) L.length) H (nowP by_ L H L.length)))) := by
  have hv := v.num
  have hN := v.hN
  have hfew := v.few
  have hgd : Good t h N (chP (h : Int) by_ L (N - h) L.length) := good_of L by_ hv.1 v.hN h1 (by omega) (by omega)
  have hlen := chP_len (h : Int) by_ L (N - h) L.length
  have hm : ∀ z ∈ chP (h : Int) by_ L (N - h) L.length, may g D z := fun z hz => by
    have := hgd.all z hz
    unfold may
    rw [v.hh, q.idle.len]
    exact this
  have hc := commit_ (m := m) (r := r) (a := a) (b := b) (e := e) (x := x) (y := y) (w := w) (c := c) (g := g) d0 n D p d _ v.ok (by rw [v.sz, q.idle.len]) (q.hl v) q.down q.pend (by rw [q.idle.len]; omega) (by omega) q.idle.ptr sl0 hgd.one hgd.few (by rw [hlen]; exact hL) hm (q.fit v)
  rw [v.ht] at hc
  have hW : (pa D.safe (chP (h : Int) by_ L (N - h) L.length)).drop h = nowP by_ L H L.length := by
    have := now_drop (h := h) D.safe by_ L L.length
    rw [q.idle.home, q.hH] at this
    exact this
  have ho := commit_out q.down q.arm0 q.pend hgd q.idle
  rw [hW] at ho
  refine hc.mono fun u m' B _ ⟨e1, e2⟩ => ?_
  rcases ho with ⟨S', a', e3, ea, eb, hi⟩ | ⟨h3, D', e3, hd⟩
  · rw [e3] at e1 e2
    have := q.arm1
    exact .inl ⟨e1, _, e2, ⟨rfl, rfl, ea, by dsimp only; omega, hi⟩, fun h => by dsimp only; omega⟩
  · rw [e3] at e1 e2
    exact .inr ⟨e1, h3, D', e2, hd⟩
theorem formatQ {m : Mem} (v : Env r a b e x y w c g t h N) (d0 : Nat) (D : Dsk) (p : Option Addr) (d : Nat) (hd : D.down = false) (ha : D.arm = 0) (hp : D.pend = []) (hN : D.safe.length = N) (hH : H.length = N - h) (h5 : ∀ z ∈ H, z.length = 512) (sl0 : Sl m Ls.fS 1 p d H) :
    Ct Try.prog 10 #[ptr d0, kv r a b e x y w c g, .slice p H.length d] m [R d0 D] (fun v m' B => v = .int .i64 0 ∧ ∃ D', B = [R d0 D'] ∧ Rst h N D' 1 H ∧ D'.arm = 0) := by
  have hv := v.num
  have hN' := v.hN
  have hfew := v.few
  have hf : Fit D 0 := ⟨by omega, by rw [hp]; exact Nat.zero_le _, by omega, fun z hz => by rw [hp] at hz; cases hz⟩
  have hc := format_ (m := m) (r := r) (a := a) (b := b) (e := e) (x := x) (y := y) (w := w) (c := c) (g := g) d0 D p d H v.ok (by rw [v.sz, hN]) (by omega) hp hf (by rw [v.hh, hN]; omega) (by omega) h5 sl0
  rw [v.hh] at hc
  obtain ⟨S', a', e1, ea, eb, hi⟩ := format_out hd ha hp hN (show 1 ≤ h by omega) (show h + H.length = N by omega) (by omega) h5
  rw [e1] at hc
  exact hc.mono fun u m' B _ ⟨e2, e3⟩ => ⟨e2, _, e3, ⟨rfl, rfl, ea, by dsimp only; omega, hi⟩, by dsimp only; omega⟩
/-- a disk that is up, and what is safe is one of those -/
structure Md (D : Dsk) (Q : List (List UInt8) → Prop) : Prop where
  down : D.down = false
  pend : D.pend = []
  arm0 : 0 ≤ D.arm
  arm1 : D.arm ≤ 9223372036854775807
  st : Q D.safe
theorem recoverI {m : Mem} (v : Env r a b e x y w c g t h N) (d0 : Nat) (D : Dsk) (q : Rst h N D n H) (hn : n < 1000) :
    Ct Try.prog 18 #[ptr d0, kv r a b e x y w c g] m [R d0 D] (fun v m' B => v = .tuple #[.int .i64 0, .int .i64 0] ∧ B = [R d0 D]) := by
  have := v.num
  exact recover0 d0 n D v.ok (by rw [v.sz, q.idle.len]) (q.hl v) q.down q.pend (by rw [q.idle.len]; omega) (by omega) q.idle.ptr
theorem recoverQ {m : Mem} {W : List (List UInt8)} {l : List Chg} (v : Env r a b e x y w c g t h N) (d0 : Nat) (D : Dsk) (hgd : Good t h N l) (hlg : (l.length : Int) ≤ g) (q : Md D (fun S => Full t h N S n l W)) (hn : n < 1000) :
    Ct Try.prog 18 #[ptr d0, kv r a b e x y w c g] m [R d0 D] (fun v m' B => ∃ k D', B = [R d0 D'] ∧
      ((v = .tuple #[.int .i64 k, .int .i64 0] ∧ Rst h N D' n W) ∨ (v = .tuple #[.int .i64 k, .int .i64 14] ∧ 0 < D.arm ∧ Dn N D' (fun S => Full t h N S n l W ∨ Idle h N S n W)))) := by
  have hv := v.num
  have hN := v.hN
  have hfew := v.few
  have hF := q.st
  have hlen := hF.len
  have hm : ∀ z ∈ l, may g D z := fun z hz => by
    have := hgd.all z hz
    unfold may
    rw [v.hh, hlen]
    exact this
  have hf : Fit D 0 := ⟨q.arm1, by rw [q.pend]; exact Nat.zero_le _, by rw [hlen]; omega, fun z hz => by rw [q.pend] at hz; cases hz⟩
  have ht : (1 + ixv g).toNat = t := by rw [v.ht]; omega
  have hfit := hgd.fit
  have hc := recoverF (m := m) (r := r) (a := a) (b := b) (e := e) (x := x) (y := y) (w := w) (c := c) (g := g) d0 n D l v.ok (by rw [v.sz, hlen]) (by rw [hlen]; omega) q.down q.pend (by rw [hlen]; omega) (by omega) hgd.one hgd.few hlg hm hF.ptr hF.ix (by rw [ht]; exact hF.log) (by rw [ht, hlen]; omega) hf
  have ho := rec_out q.down q.arm0 q.pend hgd hF
  have ha1 := q.arm1
  refine hc.mono fun u m' B _ ⟨k, e1, e2⟩ => ?_
  rcases ho with ⟨S', a', e3, ea, eb, hi⟩ | ⟨h3, D', e3, hd⟩
  · rw [e3] at e1 e2
    exact ⟨k, _, e2, .inl ⟨e1, ⟨rfl, rfl, ea, by dsimp only; omega, hi⟩⟩⟩
  · rw [e3] at e1 e2
    exact ⟨k, D', e2, .inr ⟨e1, h3, hd⟩⟩
theorem homeQ {m : Mem} (v : Env r a b e x y w c g t h N) (d0 : Nat) (D : Dsk) (q : Rst h N D n H) :
    Ct Try.prog 13 #[ptr d0, kv r a b e x y w c g] m [R d0 D] (fun v m' B => ∃ p d, v = .tuple #[.slice p H.length d, .int .i64 0] ∧ Sl m' Ls.fS 1 p d H ∧ B = [R d0 D]) := by
  have hN := v.hN
  have := home_ (m := m) (r := r) (a := a) (b := b) (e := e) (x := x) (y := y) (w := w) (c := c) (g := g) d0 h D v.ok (by rw [v.sz, q.idle.len]) (q.hl v) q.down q.pend v.hh (by rw [q.idle.len]; omega)
  rw [q.idle.home] at this
  exact this
theorem pointerQ {m : Mem} (v : Env r a b e x y w c g t h N) (d0 : Nat) (D : Dsk) (q : Rst h N D n H) (hn : n < 1000) :
    Ct Try.prog 14 #[ptr d0] m [R d0 D] (fun v m' B => v = .tuple #[.int .u64 (n : Int), .int .i64 0, .int .i64 0] ∧ B = [R d0 D]) := by
  have := v.num
  exact pointerR d0 n 0 D (by omega) (by decide) (by rw [q.idle.len]; omega) q.idle.ptr q.down q.pend (by have := q.hl v; omega)
theorem upQ {m : Mem} {Q : List (List UInt8) → Prop} (d0 : Nat) (D : Dsk) (p : Option Addr) (c0 : Nat) (l : List Bool) (hq : Dn N D Q) (hN : N ≤ 1000) (hll : l.length ≤ 9223372036854775807) (sl0 : Sl m Ls.fO 1 p c0 l) :
    Ct Try.prog 17 #[ptr d0, .slice p l.length c0] m [R d0 D] (fun v m' B => m = m' ∧ (∃ k : Int, v = .int .i64 k) ∧ ∃ D', B = [R d0 D'] ∧ Md D' Q ∧ D'.arm = 0) := by
  have hc := up_ (m := m) d0 D p c0 l hq.okD (by have := hq.few; omega) (by rw [hq.len]; omega) hll sl0
  exact hc.mono fun u m' B _ ⟨e1, e2, e3⟩ => ⟨e1, e2, _, e3, ⟨rfl, rfl, by show (0 : Int) ≤ 0; decide, by show (0 : Int) ≤ _; decide, hq.st (kq l)⟩, rfl⟩
theorem upR {m : Mem} {Q : List (List UInt8) → Prop} (d0 : Nat) (D : Dsk) (p : Option Addr) (c0 : Nat) (l : List Bool) (hq : Md D Q) (hN : D.safe.length ≤ 1000) (hll : l.length ≤ 9223372036854775807) (sl0 : Sl m Ls.fO 1 p c0 l) :
    Ct Try.prog 17 #[ptr d0, .slice p l.length c0] m [R d0 D] (fun v m' B => m = m' ∧ (∃ k : Int, v = .int .i64 k) ∧ ∃ D', B = [R d0 D'] ∧ Md D' Q ∧ D'.arm = 0) := by
  have hc := up_ (m := m) d0 D p c0 l (fun z hz => by rw [hq.pend] at hz; cases hz) (by rw [hq.pend]; exact Nat.zero_le _) (by omega) hll sl0
  refine hc.mono fun u m' B _ ⟨e1, e2, e3⟩ => ⟨e1, e2, _, e3, ⟨rfl, rfl, by show (0 : Int) ≤ 0; decide, by show (0 : Int) ≤ _; decide, ?_⟩, rfl⟩
  show Q (kpS D.safe D.pend _ D.pend.length)
  rw [hq.pend]
  exact hq.st
end
end Td
end Go.Proofs.Ytijgnbedilipdaa
namespace Go.Proofs.Ytijgnbedilipdaa
open Go Go.J
attribute [local irreducible] At AtQ AtM AtM1 PR Ct Pu Rd Res.blk Res.own Res.ex Res.obj RVs RV CW LW YC BK bodyPostM roundPost Dk.R Cod.W
namespace Td
open Dk Conf Redo
section
variable {r a b e x y w c g : Int} {t h N n n2 : Nat} {H W : List (List UInt8)} {l : List Chg}
/-- what is safe: all of a commit, or (if it failed) nothing of it, or its log -/
def Zt (t h N n n2 : Nat) (l : List Chg) (H W : List (List UInt8)) (f : Bool) (S : List (List UInt8)) : Prop := Idle h N S n2 W ∨ (f = true ∧ (Idle h N S n H ∨ (n2 = n + 1 ∧ Good t h N l ∧ Full t h N S n2 l W)))
/-- recovered: all of it, or (if it failed) nothing -/
def Yt (h N n n2 : Nat) (H W : List (List UInt8)) (f : Bool) (S : List (List UInt8)) : Prop := Idle h N S n2 W ∨ (f = true ∧ Idle h N S n H)
theorem Md.to {D : Dsk} {P Q : List (List UInt8) → Prop} (q : Md D P) (hq : ∀ S, P S → Q S) : Md D Q := ⟨q.down, q.pend, q.arm0, q.arm1, hq _ q.st⟩
theorem Dn.to {D : Dsk} {P Q : List (List UInt8) → Prop} (q : Dn N D P) (hq : ∀ S, P S → Q S) : Dn N D Q := ⟨q.okD, q.few, q.len, fun k => hq _ (q.st k)⟩
theorem Zt.len {f : Bool} {S : List (List UInt8)} (z : Zt t h N n n2 l H W f S) : S.length = N := by
  rcases z with z | ⟨_, z | ⟨_, _, z⟩⟩
  · exact z.len
  · exact z.len
  · exact z.len
theorem recA {m : Mem} (v : Env r a b e x y w c g t h N) (d0 : Nat) (D : Dsk) (f : Bool) (hlg : (l.length : Int) ≤ g) (q : Md D (Zt t h N n n2 l H W f)) (hn : n < 900) (hn2 : n2 < 1000) :
    Ct Try.prog 18 #[ptr d0, kv r a b e x y w c g] m [R d0 D] (fun v m' B => ∃ k D', B = [R d0 D'] ∧
      ((v = .tuple #[.int .i64 k, .int .i64 0] ∧ Md D' (Yt h N n n2 H W f) ∧ Md D' (Zt t h N n n2 l H W f)) ∨ (v = .tuple #[.int .i64 k, .int .i64 14] ∧ 0 < D.arm ∧ Dn N D' (Zt t h N n n2 l H W f)))) := by
  rcases q.st with z | ⟨hf, z | ⟨h2, hgd, z⟩⟩
  · exact (recoverI v d0 D ⟨q.down, q.pend, q.arm0, q.arm1, z⟩ hn2).mono fun u m' B _ ⟨e1, e2⟩ => ⟨0, D, e2, .inl ⟨e1, ⟨q.down, q.pend, q.arm0, q.arm1, .inl z⟩, q⟩⟩
  · exact (recoverI v d0 D ⟨q.down, q.pend, q.arm0, q.arm1, z⟩ (by omega)).mono fun u m' B _ ⟨e1, e2⟩ => ⟨0, D, e2, .inl ⟨e1, ⟨q.down, q.pend, q.arm0, q.arm1, .inr ⟨hf, z⟩⟩, q⟩⟩
  · refine (recoverQ v d0 D hgd hlg ⟨q.down, q.pend, q.arm0, q.arm1, z⟩ hn2).mono fun u m' B _ ⟨k, D', e2, ho⟩ => ⟨k, D', e2, ?_⟩
    rcases ho with ⟨e1, q2⟩ | ⟨e1, h3, q2⟩
    · exact .inl ⟨e1, ⟨q2.down, q2.pend, q2.arm0, q2.arm1, .inl q2.idle⟩, ⟨q2.down, q2.pend, q2.arm0, q2.arm1, .inl q2.idle⟩⟩
    · exact .inr ⟨e1, h3, q2.to fun S z => z.elim (fun z => .inr ⟨hf, .inr ⟨h2, hgd, z⟩⟩) .inl⟩
/-- where nothing is armed -/
theorem rec0 {m : Mem} (v : Env r a b e x y w c g t h N) (d0 : Nat) (D : Dsk) (f : Bool) (hlg : (l.length : Int) ≤ g) (q : Md D (Zt t h N n n2 l H W f)) (hn : n < 900) (hn2 : n2 < 1000) (ha : D.arm = 0) :
    Ct Try.prog 18 #[ptr d0, kv r a b e x y w c g] m [R d0 D] (fun v m' B => ∃ k D', v = .tuple #[.int .i64 k, .int .i64 0] ∧ B = [R d0 D'] ∧ Md D' (Yt h N n n2 H W f)) :=
  (recA v d0 D f hlg q hn hn2).mono fun u m' B _ ⟨k, D', e2, ho⟩ => by
    rcases ho with ⟨e1, q2, _⟩ | ⟨_, h3, _⟩
    · exact ⟨k, D', e1, e2, q2⟩
    · omega
theorem armQ {m : Mem} {Q : List (List UInt8) → Prop} (d0 : Nat) (D : Dsk) (k : Int) (hk : k ≤ 9223372036854775807) (q : Md D Q) :
    Ct Try.prog 16 #[ptr d0, .int .i64 k] m [R d0 D] (fun v m' B => v = .tuple #[] ∧ m = m' ∧ ∃ D', B = [R d0 D'] ∧ Md D' Q ∧ D'.arm = max k 0) :=
  (arm_ d0 D k).mono fun u m' B _ ⟨e1, e2, e3⟩ => ⟨e1, e2, _, e3, ⟨q.down, q.pend, by dsimp only; omega, by dsimp only; omega, q.st⟩, rfl⟩
theorem commitA {m : Mem} (v : Env r a b e x y w c g t h N) (d0 : Nat) (D : Dsk) (p : Option Addr) (d : Nat) (by_ : Int) (L : List Nat) (q : Md D (fun S => Idle h N S n H)) (hn : n < 900) (hL : (L.length : Int) ≤ g) (sl0 : Sl m fC 2 p d (chP (h : Int) by_ L (N - h) L.length)) :
    Ct Try.prog 12 #[ptr d0, kv r a b e x y w c g, .slice p (chP (h : Int) by_ L (N - h) L.length).length d] m [R d0 D] (fun v m' B => ∃ n2 D', n2 ≤ n + 1 ∧ B = [R d0 D'] ∧
      ((v = .int .i64 0 ∧ Md D' (Zt t h N n n2 (chP (h : Int) by_ L (N - h) L.length) H (nowP by_ L H L.length) false)) ∨
       (v = .int .i64 14 ∧ 0 < D.arm ∧ Dn N D' (Zt t h N n n2 (chP (h : Int) by_ L (N - h) L.length) H (nowP by_ L H L.length) true)))) := by
  have q' : Rst h N D n H := ⟨q.down, q.pend, q.arm0, q.arm1, q.st⟩
  have hv := v.num
  have hfew := v.few
  have hN := v.hN
  by_cases h0 : L.length = 0
  · obtain rfl : L = [] := List.eq_nil_of_length_eq_zero h0
    exact (commitE v d0 D p d q' (by omega) sl0).mono fun u m' B _ ⟨e1, e2⟩ => ⟨n, D, by omega, e2, .inl ⟨e1, ⟨q.down, q.pend, q.arm0, q.arm1, .inl q.st⟩⟩⟩
  · have hgd : Good t h N (chP (h : Int) by_ L (N - h) L.length) := good_of L by_ hv.1 v.hN (by omega) (by omega) (by omega)
    refine (commitN v d0 D p d by_ L q' (by omega) (by omega) hL sl0).mono fun u m' B _ ho => ?_
    rcases ho with ⟨e1, D', e2, q2, _⟩ | ⟨e1, h3, D', e2, q2⟩
    · exact ⟨n + 1, D', Nat.le_refl _, e2, .inl ⟨e1, ⟨q2.down, q2.pend, q2.arm0, q2.arm1, .inl q2.idle⟩⟩⟩
    · exact ⟨n + 1, D', Nat.le_refl _, e2, .inr ⟨e1, h3, q2.to fun S z => z.elim (fun z => .inr ⟨rfl, .inl z⟩) fun z => z.elim (fun z => .inr ⟨rfl, .inr ⟨rfl, hgd, z⟩⟩) .inl⟩⟩
end
end Td
end Go.Proofs.Ytijgnbedilipdaa
namespace Go.Proofs.Ytijgnbedilipdaa
open Go Go.J
attribute [local irreducible] At AtQ AtM AtM1 PR Ct Pu Rd Res.blk Res.own Res.ex Res.obj RVs RV CW LW YC BK bodyPostM roundPost Dk.R Cod.W
namespace Td
open Dk Conf Redo
theorem env_fit : Env 20 10 20 60 4 5 6 3 9 2 11 36 := ⟨fit_ok, by decide, by decide, by decide, by decide, by decide⟩
theorem ch_one : chP ((11 : Nat) : Int) 99 [1] (36 - 11) ([1] : List Nat).length = [⟨12, t13 99⟩] := by rfl
theorem begins13 : Pu Try.prog 5 #[] (.bool true) := Pu.of_le fun m => by
  have v := env_fit
  have k1 := fun (m' : Mem) => new_ (m := m') 36 (by decide) (by decide)
  have k2 := fun (m' : Mem) => homes (m := m') (1 : Int) 36 25 v.ok v.sz (by decide) (by rw [v.hh]; decide) (by decide) (by decide)
  have k3 := fun (m' : Mem) (d0 : Nat) (p : Option Addr) (d : Nat) (sl : Sl m' Ls.fS 1 p d (hom 1 25)) => formatQ (m := m') (H := hom 1 25) v d0 (mkD 36) p d rfl rfl rfl (by unfold mkD; exact List.length_replicate) (hom_len 1 25) (hom_512 1 25) sl
  have k4 : ∀ (m' : Mem) (d0 : Nat) (D : Dsk) (p : Option Addr) (d : Nat), Rst 11 36 D 1 (hom 1 25) → D.arm = 0 → Sl m' fC 2 p d [(⟨12, t13 99⟩ : Chg)] → Ct Try.prog 12 #[ptr d0, kv 20 10 20 60 4 5 6 3 9, .slice p 1 d] m' [R d0 D] (fun v m' B => v = .int .i64 0 ∧ ∃ D', B = [R d0 D'] ∧ Rst 11 36 D' 2 ((hom 1 25).set 1 (t13 99))) := fun m' d0 D p d q ha sl => by
    have := commitN (m := m') v d0 D p d 99 [1] q (by decide) (by decide) (by decide) (by rw [ch_one]; exact sl)
    rw [ch_one] at this
    refine this.mono fun u m2 B _ ho => ?_
    rcases ho with ⟨e1, D', e2, e3, _⟩ | ⟨_, h, _⟩
    · exact ⟨e1, D', e2, e3⟩
    · rw [ha] at h; exact absurd h (by decide)
  have k5 := fun (m' : Mem) (d0 : Nat) (D : Dsk) (q : Rst 11 36 D 2 ((hom 1 25).set 1 (t13 99))) => homeQ (m := m') v d0 D q
  have k6 := text13 99 (by decide)
  have hl : ((hom 1 25).set 1 (t13 99)).length = 25 := by rw [List.length_set, hom_len]
  have hget : ((hom 1 25).set 1 (t13 99))[1]! = t13 99 := by rw [getElem!_pos _ _ (by rw [hl]; decide), List.getElem_set_self]
  have hhl := hom_len 1 25
  generalize (hom 1 25).set 1 (t13 99) = W at k4 k5 hl hget
  generalize hom 1 25 = H at k2 k3 k4 hhl
  generalize t13 99 = X at k4 k6 hget
  generalize mkD 36 = D0 at k1 k3
  refine Ct.enterV (by rfl) Try.func5 rfl Try.ntmps5 rfl (fun w0 Rest => ?_)
  (repeat' (first | ((with_reducible apply At.mixed (id := 5) 6 (.q 0 (.q 1 (.q 2 (.l 3 (.x 4 (.q 5 .done))))))); exact rfl; kernel_rfl; kernel_rfl; kernel_rfl) | ((with_reducible apply At.mixed (id := 6) 7 (.q 0 (.q 1 (.q 2 (.q 3 (.l 4 (.x 5 (.q 6 .done)))))))); exact rfl; kernel_rfl; kernel_rfl; kernel_rfl) | refine zsx ?_ | refine zss ?_ | ((with_reducible apply AtM.bo); exact rfl; exact rfl; exact rfl) | ((first | (with_reducible first | apply At.val | apply AtQ.val) | ((with_reducible first | apply AtM1.valz | apply AtM1.val); exact rfl) | ((with_reducible apply AtM1.val); exact rfl)); (exact zprA); exact rfl) | refine zs0 ?_ | refine zx0 ?_ | ((with_reducible first | apply AtM1.callp | apply AtQ.callp | apply At.callp); kernel_rfl; exact rfl; exact rfl; exact fit) | ((with_reducible first | apply AtM1.callp | apply AtQ.callp | apply At.callp); kernel_rfl; exact rfl; exact rfl; exact k6) | ((with_reducible first | apply At.c1 | apply At.c0); exact rfl; exact rfl; exact k1 _; exact ztk; kernel_rfl; rintro v' m' B' hm' ⟨d0, rfl, rfl⟩; (try replace sl5 := sl5.mono hm'); (try replace sl6 := sl6.mono hm'); (try replace sl7 := sl7.mono hm'); (try (have hq0 : hm' = Mem.le_refl _ := rfl; clear hq0 hm'))) | ((with_reducible first | apply At.c1 | apply At.c0); exact rfl; exact rfl; exact k2 _; exact ztk; kernel_rfl; rintro v' m' B' hm' ⟨p5, d5, rfl, sl5, rfl⟩; (try replace sl5 := sl5.mono hm'); (try replace sl6 := sl6.mono hm'); (try replace sl7 := sl7.mono hm'); (try (have hq0 : hm' = Mem.le_refl _ := rfl; clear hq0 hm'))) | ((with_reducible first | apply At.c1 | apply At.c0); exact rfl; exact rfl; exact k3 _ d0 _ _ sl5; exact ztk; kernel_rfl; rintro v' m' B' hm' ⟨rfl, D1, rfl, q1, ha1⟩; (try replace sl5 := sl5.mono hm'); (try replace sl6 := sl6.mono hm'); (try replace sl7 := sl7.mono hm'); (try (have hq0 : hm' = Mem.le_refl _ := rfl; clear hq0 hm'))) | ((with_reducible apply At.litF fC [(⟨12, X⟩ : Chg)]); exact inferInstance; (iterate 7 exact rfl); intro b' m' hm' sl6; (try replace sl5 := sl5.mono hm'); (try replace sl7 := sl7.mono hm')) | ((with_reducible first | apply At.c1 | apply At.c0); exact rfl; exact rfl; exact k4 _ d0 D1 _ _ q1 ha1 sl6; exact ztk; kernel_rfl; rintro v' m' B' hm' ⟨rfl, D2, rfl, q2⟩; (try replace sl5 := sl5.mono hm'); (try replace sl6 := sl6.mono hm'); (try replace sl7 := sl7.mono hm'); (try (have hq0 : hm' = Mem.le_refl _ := rfl; clear hq0 hm'))) | ((with_reducible first | apply At.c1 | apply At.c0); exact rfl; exact rfl; exact k5 _ d0 D2 q2; exact ztk; kernel_rfl; rintro v' m' B' hm' ⟨p7, d7, rfl, sl7, rfl⟩; (try replace sl5 := sl5.mono hm'); (try replace sl6 := sl6.mono hm'); (try replace sl7 := sl7.mono hm'); (try (have hq0 : hm' = Mem.le_refl _ := rfl; clear hq0 hm'))) | ((with_reducible apply At.alloc (d := 1)); exact rfl; exact rfl; intro b1) | (refine zsp ?_ ?_ <;> (intro hc; (try simp only [zhcs, reduceCtorEq] at hc); (try (exfalso; first | (first | omega | exact absurd rfl hc) | contradiction | omega | exact absurd rfl hc | exact absurd (by decide) hc))))))
  all_goals clear sl5 sl6
  (repeat' (first | refine zss ?_ | ((first | (with_reducible first | apply At.val | apply AtQ.val)); (exact zprA); exact rfl) | refine zsM ?_ | ((with_reducible first | apply AtM1.callp | apply AtQ.callp | apply At.callp); kernel_rfl; exact rfl; exact rfl; exact k6) | ((with_reducible apply At.alloc (d := 1)); exact rfl; exact rfl; intro b1) | (refine zsp ?_ ?_ <;> (intro hc; (try simp only [zhcs, reduceCtorEq] at hc); (try (exfalso; first | (first | omega | exact absurd rfl hc) | contradiction | omega | exact absurd rfl hc | exact absurd (by decide) hc))))))
  all_goals ((with_reducible apply At.retB1 (B := [])); exact rfl; exact rfl; exact zml; exact zkp; exact ⟨congrArg Value.bool (by first | rfl | exact decide_eq_true hget | simp [hget]), zml, rfl⟩)
end Td
end Go.Proofs.Ytijgnbedilipdaa
namespace Go.Proofs.Ytijgnbedilipdaa
open Go Go.J
attribute [local irreducible] At AtQ AtM AtM1 PR Ct Pu Rd Res.blk Res.own Res.ex Res.obj RVs RV CW LW YC BK bodyPostM roundPost Dk.R Cod.W
namespace Td
open Dk Conf Redo
/-- what the law knows of a commit that it is given -/
structure CmOk (m : Mem) (z : Cm) : Prop where
  s1 : Sl m Ls.fH 1 z.p1 z.c1 z.L
  s2 : Sl m Ls.fO 1 z.p2 z.c2 z.K
  s3 : Sl m Ls.fO 1 z.p3 z.c3 z.T
  hL : ∀ k ∈ z.L, k < 65536
  hb : 0 ≤ z.by_ ∧ z.by_ < 256
  hs : z.step ≤ 9223372036854775807
  ha : z.again ≤ 9223372036854775807
  h1 : z.L.length ≤ 9223372036854775807
  h2 : z.K.length ≤ 9223372036854775807
  h3 : z.T.length ≤ 9223372036854775807
theorem CmOk.mono {m m' : Mem} {z : Cm} (q : CmOk m z) (hm : m.le m') : CmOk m' z := ⟨q.s1.mono hm, q.s2.mono hm, q.s3.mono hm, q.hL, q.hb, q.hs, q.ha, q.h1, q.h2, q.h3⟩
section
variable {r a b e x y w c g : Int}
theorem Ft.env {l : List Cm} (f : Ft r a b e x y w c g l) : ∃ t h N : Nat, Env r a b e x y w c g t h N := by
  obtain ⟨h1, h2, h3⟩ := hm_bd f.ok
  have := f.ok.hg
  have := f.sz
  have := f.hm
  exact ⟨(1 + ixv g).toNat, (hmv g).toNat, (szv r x y w c g).toNat, f.ok, by omega, by omega, by omega, by omega, by omega⟩
structure WS where
  (j : Nat) (m : Mem) (p : Option Addr) (d : Nat) (H : List (List UInt8)) (D : Dsk) (n : Nat)
theorem commits {m : Mem} (by_ : Int) (p : Option Addr) (d : Nat) (l : List Cm) (hl : l.length ≤ 9223372036854775807) (hb : 0 ≤ by_ ∧ by_ < 256) (sl0 : Sl m Cm.cells 6 p d l) (hz : ∀ z ∈ l, CmOk m z) :
    Ct Try.prog 4 #[kv r a b e x y w c g, .int .u8 by_, .slice p l.length d] m [] (fun v m' B => v = .bool true ∧ B = []) := by
  have k1 := begins13
  have k2 := fun (m' : Mem) (hmm : m.le m') => fits (r := r) (a := a) (b := b) (e := e) (x := x) (y := y) (w := w) (c := c) (g := g) (m := m') p d l hl (sl0.mono hmm) (fun z hz' => by have := (hz z hz').h1; omega)
  by_cases hf : Ft r a b e x y w c g l
  · obtain ⟨t, h, N, v⟩ := hf.env
    have k2' : ∀ m', m.le m' → Ct Try.prog 6 #[kv r a b e x y w c g, .slice p l.length d] m' [] (fun v m'' B => v = .bool true ∧ m' = m'' ∧ B = []) := fun m' hmm => (k2 m' hmm).mono fun u m2 B _ ⟨q, e1, e2, e3⟩ => ⟨by rw [e1, e2.2 hf], e3⟩
    have hv := v.num
    have hhN := v.hN
    have hfew := v.few
    have k3 : Pu Try.prog 7 #[kv r a b e x y w c g] (.tuple #[.int .i64 (N : Int), .int .i64 0]) := by
      have := sizeF v.ok
      rwa [if_neg (by rw [v.sz]; omega), v.sz] at this
    have k4 := fun (m' : Mem) => new_ (m := m') N (by omega) (by omega)
    have k5 := fun (m' : Mem) => homes (m := m') by_ N (N - h) v.ok v.sz (by omega) (by rw [v.hh]; omega) (by omega) hb
    have k6 := fun (m' : Mem) (d0 : Nat) (p : Option Addr) (d : Nat) (sl : Sl m' Ls.fS 1 p d (hom by_ (N - h))) => formatQ (m := m') (H := hom by_ (N - h)) v d0 (mkD N) p d rfl rfl rfl (by unfold mkD; exact List.length_replicate) (hom_len by_ (N - h)) (hom_512 by_ (N - h)) sl
    generalize mkD N = D0 at k4 k6
    refine Ct.enterV (by rfl) Try.func4 rfl Try.ntmps4 rfl (fun w0 Rest => ?_)
    (repeat' (first | refine zss ?_ | ((first | (with_reducible first | apply At.val | apply AtQ.val)); (exact zprA); exact rfl) | refine zs0 ?_ | ((with_reducible first | apply AtM1.callp | apply AtQ.callp | apply At.callp); kernel_rfl; exact rfl; exact rfl; exact k1) | ((with_reducible first | apply At.c1 | apply At.c0); exact rfl; exact rfl; exact k2' _ zml; exact ztk; kernel_rfl; rintro v' m' B' hm' ⟨rfl, rfl, rfl⟩; (try replace sl0 := sl0.mono hm'); (try replace sl2 := sl2.mono hm'); (try replace sl3 := sl3.mono hm'); (try replace sl5 := sl5.mono hm'); (try replace sl6 := sl6.mono hm'); (try replace sl7 := sl7.mono hm'); (try replace sl8 := sl8.mono hm'); (try replace sl9 := sl9.mono hm'); (try (have hq0 : hm' = Mem.le_refl _ := rfl; clear hq0 hm'))) | ((with_reducible first | apply AtM1.callp | apply AtQ.callp | apply At.callp); kernel_rfl; exact rfl; exact rfl; exact k3) | ((with_reducible first | apply At.c1 | apply At.c0); exact rfl; exact rfl; exact k4 _; exact ztk; kernel_rfl; rintro v' m' B' hm' ⟨d0, rfl, rfl⟩; (try replace sl0 := sl0.mono hm'); (try replace sl2 := sl2.mono hm'); (try replace sl3 := sl3.mono hm'); (try replace sl5 := sl5.mono hm'); (try replace sl6 := sl6.mono hm'); (try replace sl7 := sl7.mono hm'); (try replace sl8 := sl8.mono hm'); (try replace sl9 := sl9.mono hm'); (try (have hq0 : hm' = Mem.le_refl _ := rfl; clear hq0 hm'))) | ((with_reducible first | apply At.c1 | apply At.c0); exact rfl; exact rfl; exact k5 _; exact ztk; kernel_rfl; rintro v' m' B' hm' ⟨p5, d5, rfl, sl5, rfl⟩; (try replace sl0 := sl0.mono hm'); (try replace sl2 := sl2.mono hm'); (try replace sl3 := sl3.mono hm'); (try replace sl5 := sl5.mono hm'); (try replace sl6 := sl6.mono hm'); (try replace sl7 := sl7.mono hm'); (try replace sl8 := sl8.mono hm'); (try replace sl9 := sl9.mono hm'); (try (have hq0 : hm' = Mem.le_refl _ := rfl; clear hq0 hm'))) | ((with_reducible first | apply At.c1 | apply At.c0); exact rfl; exact rfl; exact k6 _ d0 _ _ sl5; exact ztk; kernel_rfl; rintro v' m' B' hm' ⟨rfl, D1, rfl, q1, ha1⟩; (try replace sl0 := sl0.mono hm'); (try replace sl2 := sl2.mono hm'); (try replace sl3 := sl3.mono hm'); (try replace sl5 := sl5.mono hm'); (try replace sl6 := sl6.mono hm'); (try replace sl7 := sl7.mono hm'); (try replace sl8 := sl8.mono hm'); (try replace sl9 := sl9.mono hm'); (try (have hq0 : hm' = Mem.le_refl _ := rfl; clear hq0 hm'))) | ((with_reducible apply At.box (d := 3)); exact rfl; exact rfl; exact rfl; intro b3) | ((with_reducible apply At.alloc (d := 13)); exact rfl; exact rfl; intro b13) | (refine zsp ?_ ?_ <;> (intro hc; (try simp only [zhcs, reduceCtorEq] at hc); (try (exfalso; first | (first | omega | exact absurd rfl hc) | contradiction | omega | exact absurd rfl hc | exact absurd (by decide) hc))))))
    have hfl := hf.few
    have hsm := hf.small
    clear k1 k2 k2' k3 k4 k5 k6
    (refine At.loopk (σ := WS) [3, 9, 55, 56] (fun s F0 => (11, .slice s.p s.H.length s.d) :: (57, .int .i64 (s.j : Int)) :: F0) (fun s => s.m) (fun s => R d0 s.D :: .blk b3 25 [gi r, gi a, gi b, gi e, gi x, gi y, gi w, gi c, gi g] :: Rest) (fun s => s.j ≤ l.length ∧ m.le s.m ∧ Sl s.m Cm.cells 6 p d l ∧ Sl s.m Ls.fS 1 s.p s.d s.H ∧ Md s.D (fun S => Idle h N S s.n s.H) ∧ s.n ≤ 1 + s.j) (fun s => l.length - s.j) ⟨0, _, p5, d5, hom by_ (N - h), D1, 1⟩ (by rfl) ?_ zsubs zml zente ?_)
    · exact ⟨Nat.zero_le _, zml, sl0, sl5, ⟨q1.down, q1.pend, q1.arm0, q1.arm1, q1.idle⟩, Nat.le_refl _⟩
    clear sl0 sl5 q1 ha1
    rintro ⟨j, m1, pH, dH, H, D, n⟩ ⟨hj, hm1, sl6, sl5, q1, hn⟩
    dsimp only at hj hm1 sl6 sl5 q1 hn ⊢
    by_cases h0 : j < l.length
    · have hzj := (hz _ (Ls.mem! h0)).mono hm1
      have hsj := hsm j h0
      have wH : Wr (Sl m1 Ls.fS 1 pH dH H) := ⟨sl5⟩
      have w6 : Wr (Sl m1 Cm.cells 6 p d l) := ⟨sl6⟩
      clear hz hsm sl5
      (repeat' (first | refine zss ?_ | ((first | (with_reducible first | apply At.val | apply AtQ.val)); (exact zprA); exact rfl) | refine zsM ?_ | ((with_reducible apply At.box (d := 3)); exact rfl; exact rfl; exact rfl; intro b3) | ((with_reducible apply At.alloc (d := 13)); exact rfl; exact rfl; intro b13) | (refine zsp ?_ ?_ <;> (intro hc; (try simp only [zhcs, reduceCtorEq] at hc); (try (exfalso; first | (first | omega | exact absurd rfl hc) | contradiction | omega | exact absurd rfl hc | exact absurd (by decide) hc))))))
      all_goals generalize l[j]! = z at hzj hsj ⊢
      all_goals clear sl6
      all_goals obtain ⟨p1, c1, L, bz, step, p2, c2, K, again, p3, c3, T⟩ := z
      all_goals dsimp only at hzj hsj ⊢
      have hHl : H.length = N - h := Rst.hH ⟨q1.down, q1.pend, q1.arm0, q1.arm1, q1.st⟩
      have k7 := changes (r := r) (a := a) (b := b) (e := e) (x := x) (y := y) (w := w) (c := c) (g := g) (m := m1) ⟨p1, c1, L, bz, step, p2, c2, K, again, p3, c3, T⟩ pH dH H v.ok (by omega) (by omega) (by dsimp only; omega) hzj.hL hzj.hb wH.1 hzj.s1
      rw [v.hh] at k7
      dsimp only [Cm.cells] at k7
      rw [hHl] at k7
      rw [hHl]
      have k8 := fun (m' : Mem) => armQ (m := m') d0 D step hzj.hs q1
      have hLg : (L.length : Int) ≤ g := by omega
      have k9 := fun (m' : Mem) (D' : Dsk) (q : Md D' (fun S => Idle h N S n H)) (pc : Option Addr) (dc : Nat) (sl : Sl m' fC 2 pc dc (chP (h : Int) bz L (N - h) L.length)) => commitA (m := m') v d0 D' pc dc bz L q (by omega) hLg sl
      have sl2 := hzj.s2
      have sl3 := hzj.s3
      have hag := hzj.ha
      have hK := hzj.h2
      have hT := hzj.h3
      have sl5 := wH.1
      have sl6 := w6.1
      clear hzj wH w6
      (repeat' (first | refine zss ?_ | ((first | (with_reducible first | apply At.val | apply AtQ.val)); (exact zprA); exact rfl) | refine zs0 ?_ | ((with_reducible first | apply At.c1 | apply At.c0); exact rfl; exact rfl; exact k7; exact ztk; kernel_rfl; rintro v' m' B' hm' ⟨pc, dc, pn, dn, rfl, sl7, sl8, rfl⟩; (try replace sl0 := sl0.mono hm'); (try replace sl2 := sl2.mono hm'); (try replace sl3 := sl3.mono hm'); (try replace sl5 := sl5.mono hm'); (try replace sl6 := sl6.mono hm'); (try replace sl7 := sl7.mono hm'); (try replace sl8 := sl8.mono hm'); (try replace sl9 := sl9.mono hm'); (try (have hq0 : hm' = Mem.le_refl _ := rfl; clear hq0 hm'))) | ((with_reducible first | apply At.c1 | apply At.c0); exact rfl; exact rfl; exact k8 _; exact ztk; kernel_rfl; rintro v' m' B' hm' ⟨rfl, rfl, D2, rfl, q2, ha2⟩; (try replace sl0 := sl0.mono hm'); (try replace sl2 := sl2.mono hm'); (try replace sl3 := sl3.mono hm'); (try replace sl5 := sl5.mono hm'); (try replace sl6 := sl6.mono hm'); (try replace sl7 := sl7.mono hm'); (try replace sl8 := sl8.mono hm'); (try replace sl9 := sl9.mono hm'); (try (have hq0 : hm' = Mem.le_refl _ := rfl; clear hq0 hm'))) | ((with_reducible first | apply At.c1 | apply At.c0); exact rfl; exact rfl; exact k9 _ D2 q2 _ _ sl7; exact ztk; kernel_rfl; rintro v' m' B' hm' ⟨n2, D3, hn2, rfl, ho⟩; (try replace sl0 := sl0.mono hm'); (try replace sl2 := sl2.mono hm'); (try replace sl3 := sl3.mono hm'); (try replace sl5 := sl5.mono hm'); (try replace sl6 := sl6.mono hm'); (try replace sl7 := sl7.mono hm'); (try replace sl8 := sl8.mono hm'); (try replace sl9 := sl9.mono hm'); (try (have hq0 : hm' = Mem.le_refl _ := rfl; clear hq0 hm'))) | ((with_reducible apply At.box (d := 3)); exact rfl; exact rfl; exact rfl; intro b3) | ((with_reducible apply At.alloc (d := 13)); exact rfl; exact rfl; intro b13) | (refine zsp ?_ ?_ <;> (intro hc; (try simp only [zhcs, reduceCtorEq] at hc); (try (exfalso; first | (first | omega | exact absurd rfl hc) | contradiction | omega | exact absurd rfl hc | exact absurd (by decide) hc))))))
      have hW : ∃ (f : Bool) (wv : Int), v' = .int .i64 wv ∧ (wv = 0 ∨ (wv = 14 ∧ 1 ≤ step)) ∧ (wv = 0 → f = false) ∧
          ∀ m' (sl : Sl m' Ls.fO 1 p2 c2 K), Ct Try.prog 17 #[ptr d0, .slice p2 K.length c2] m' [R d0 D3] (fun v m'' B => m' = m'' ∧ (∃ k : Int, v = .int .i64 k) ∧ ∃ D', B = [R d0 D'] ∧ Md D' (Zt t h N n n2 (chP (h : Int) bz L (N - h) L.length) H (nowP bz L H L.length) f) ∧ D'.arm = 0) := by
        rcases ho with ⟨e1, q3⟩ | ⟨e1, hpos, q3⟩
        · exact ⟨false, 0, e1, .inl rfl, fun _ => rfl, fun m' sl => upR (m := m') d0 D3 p2 c2 K q3 (by rw [q3.st.len]; omega) hK sl⟩
        · exact ⟨true, 14, e1, .inr ⟨rfl, by omega⟩, fun h => absurd h (by decide), fun m' sl => upQ (m := m') d0 D3 p2 c2 K q3 (by omega) hK sl⟩
      clear ho
      obtain ⟨f, wv, rfl, hwv, hwf, kup⟩ := hW
      have k10 := fun (m' : Mem) (D' : Dsk) (q : Md D' (Zt t h N n n2 (chP (h : Int) bz L (N - h) L.length) H (nowP bz L H L.length) f)) => armQ (m := m') d0 D' again hag q
      have hlgc : ((chP (h : Int) bz L (N - h) L.length).length : Int) ≤ g := by rw [chP_len]; exact hLg
      have k11 := fun (m' : Mem) (D' : Dsk) (q : Md D' (Zt t h N n n2 (chP (h : Int) bz L (N - h) L.length) H (nowP bz L H L.length) f)) => recA (m := m') v d0 D' f hlgc q (by omega) (by omega)
      clear k7 k8 k9
      (repeat' (first | refine zss ?_ | ((first | (with_reducible first | apply At.val | apply AtQ.val)); (exact zprA); exact rfl) | refine zs0 ?_ | ((with_reducible first | apply At.c1 | apply At.c0); exact rfl; exact rfl; exact kup _ sl2; exact ztk; kernel_rfl; rintro v' m' B' hm' ⟨rfl, ⟨_, rfl⟩, D4, rfl, q4, ha4⟩; (try replace sl0 := sl0.mono hm'); (try replace sl2 := sl2.mono hm'); (try replace sl3 := sl3.mono hm'); (try replace sl5 := sl5.mono hm'); (try replace sl6 := sl6.mono hm'); (try replace sl7 := sl7.mono hm'); (try replace sl8 := sl8.mono hm'); (try replace sl9 := sl9.mono hm'); (try (have hq0 : hm' = Mem.le_refl _ := rfl; clear hq0 hm'))) | ((with_reducible first | apply At.c1 | apply At.c0); exact rfl; exact rfl; exact k10 _ D4 q4; exact ztk; kernel_rfl; rintro v' m' B' hm' ⟨rfl, rfl, D5, rfl, q5, ha5⟩; (try replace sl0 := sl0.mono hm'); (try replace sl2 := sl2.mono hm'); (try replace sl3 := sl3.mono hm'); (try replace sl5 := sl5.mono hm'); (try replace sl6 := sl6.mono hm'); (try replace sl7 := sl7.mono hm'); (try replace sl8 := sl8.mono hm'); (try replace sl9 := sl9.mono hm'); (try (have hq0 : hm' = Mem.le_refl _ := rfl; clear hq0 hm'))) | ((with_reducible first | apply At.c1 | apply At.c0); exact rfl; exact rfl; exact k11 _ D5 q5; exact ztk; kernel_rfl; rintro v' m' B' hm' ⟨kk, D6, rfl, ho⟩; (try replace sl0 := sl0.mono hm'); (try replace sl2 := sl2.mono hm'); (try replace sl3 := sl3.mono hm'); (try replace sl5 := sl5.mono hm'); (try replace sl6 := sl6.mono hm'); (try replace sl7 := sl7.mono hm'); (try replace sl8 := sl8.mono hm'); (try replace sl9 := sl9.mono hm'); (try (have hq0 : hm' = Mem.le_refl _ := rfl; clear hq0 hm'))) | ((with_reducible apply At.box (d := 3)); exact rfl; exact rfl; exact rfl; intro b3) | ((with_reducible apply At.alloc (d := 13)); exact rfl; exact rfl; intro b13) | (refine zsp ?_ ?_ <;> (intro hc; (try simp only [zhcs, reduceCtorEq] at hc); (try (exfalso; first | (first | omega | exact absurd rfl hc) | contradiction | omega | exact absurd rfl hc | exact absurd (by decide) hc))))))
      all_goals
        have hR : ∃ w2 : Int, v' = .tuple #[.int .i64 kk, .int .i64 w2] ∧ (w2 = 0 ∨ (w2 = 14 ∧ 1 ≤ again)) ∧
          ∀ m' (sl : Sl m' Ls.fO 1 p3 c3 T), Ct Try.prog 17 #[ptr d0, .slice p3 T.length c3] m' [R d0 D6] (fun v m'' B => m' = m'' ∧ (∃ k : Int, v = .int .i64 k) ∧ ∃ D', B = [R d0 D'] ∧ Md D' (Zt t h N n n2 (chP (h : Int) bz L (N - h) L.length) H (nowP bz L H L.length) f) ∧ D'.arm = 0) := by
          rcases ho with ⟨e1, _, q6⟩ | ⟨e1, hpos, q6⟩
          · exact ⟨0, e1, .inl rfl, fun m' sl => upR (m := m') d0 D6 p3 c3 T q6 (by rw [q6.st.len]; omega) hT sl⟩
          · exact ⟨14, e1, .inr ⟨rfl, by omega⟩, fun m' sl => upQ (m := m') d0 D6 p3 c3 T q6 (by omega) hT sl⟩
      all_goals clear ho kup k10 k11
      all_goals obtain ⟨w2, rfl, hw2, kup2⟩ := hR
      all_goals have k12 := fun (m' : Mem) (D' : Dsk) (q : Md D' (Zt t h N n n2 (chP (h : Int) bz L (N - h) L.length) H (nowP bz L H L.length) f)) (ha : D'.arm = 0) => rec0 (m := m') v d0 D' f hlgc q (by omega) (by omega) ha
      (repeat' (first | refine zss ?_ | ((first | (with_reducible first | apply At.val | apply AtQ.val)); (exact zprA); exact rfl) | refine zs0 ?_ | ((with_reducible first | apply At.c1 | apply At.c0); exact rfl; exact rfl; exact kup2 _ sl3; exact ztk; kernel_rfl; rintro v' m' B' hm' ⟨rfl, ⟨_, rfl⟩, D7, rfl, q7, ha7⟩; (try replace sl0 := sl0.mono hm'); (try replace sl2 := sl2.mono hm'); (try replace sl3 := sl3.mono hm'); (try replace sl5 := sl5.mono hm'); (try replace sl6 := sl6.mono hm'); (try replace sl7 := sl7.mono hm'); (try replace sl8 := sl8.mono hm'); (try replace sl9 := sl9.mono hm'); (try (have hq0 : hm' = Mem.le_refl _ := rfl; clear hq0 hm'))) | ((with_reducible first | apply At.c1 | apply At.c0); exact rfl; exact rfl; exact k12 _ D7 q7 ha7; exact ztk; kernel_rfl; rintro v' m' B' hm' ⟨k3, D8, rfl, rfl, q8⟩; (try replace sl0 := sl0.mono hm'); (try replace sl2 := sl2.mono hm'); (try replace sl3 := sl3.mono hm'); (try replace sl5 := sl5.mono hm'); (try replace sl6 := sl6.mono hm'); (try replace sl7 := sl7.mono hm'); (try replace sl8 := sl8.mono hm'); (try replace sl9 := sl9.mono hm'); (try (have hq0 : hm' = Mem.le_refl _ := rfl; clear hq0 hm'))) | ((with_reducible apply At.box (d := 3)); exact rfl; exact rfl; exact rfl; intro b3) | ((with_reducible apply At.alloc (d := 13)); exact rfl; exact rfl; intro b13) | (refine zsp ?_ ?_ <;> (intro hc; (try simp only [zhcs, reduceCtorEq] at hc); (try (exfalso; first | (first | omega | exact absurd rfl hc) | contradiction | omega | exact absurd rfl hc | exact absurd (by decide) hc))))))
      all_goals
        have hM : ∃ n3 H3, Rst h N D8 n3 H3 ∧ n3 ≤ n + 1 ∧ (H3 = nowP bz L H L.length ∨ (¬ H3 = nowP bz L H L.length ∧ f = true ∧ H3 = H)) := by
          rcases q8.st with z | ⟨hf1, z⟩
          · exact ⟨n2, _, ⟨q8.down, q8.pend, q8.arm0, q8.arm1, z⟩, hn2, .inl rfl⟩
          · by_cases hall : H = nowP bz L H L.length
            · exact ⟨n, H, ⟨q8.down, q8.pend, q8.arm0, q8.arm1, z⟩, by omega, .inl hall⟩
            · exact ⟨n, H, ⟨q8.down, q8.pend, q8.arm0, q8.arm1, z⟩, by omega, .inr ⟨hall, hf1, rfl⟩⟩
      all_goals obtain ⟨n3, H3, q9, hn3, hW3⟩ := hM
      all_goals have hl3 := Rst.hH q9
      all_goals have hnl := nowP_len bz L H L.length
      all_goals have k14 := fun (m' : Mem) => homeQ (m := m') v d0 D8 q9
      all_goals have k15 := fun (m' : Mem) (p9 : Option Addr) (d9 : Nat) (s9 : Sl m' Ls.fS 1 p9 d9 H3) (s8 : Sl m' Ls.fS 1 pn dn (nowP bz L H L.length)) => same_ (m := m') p9 d9 H3 pn dn (nowP bz L H L.length) (by omega) (by omega) s9 s8
      all_goals have k16 := fun (m' : Mem) (p9 : Option Addr) (d9 : Nat) (s9 : Sl m' Ls.fS 1 p9 d9 H3) (s5 : Sl m' Ls.fS 1 pH dH H) => same_ (m := m') p9 d9 H3 pH dH H (by omega) (by omega) s9 s5
      all_goals rw [hHl] at k16
      all_goals clear kup2 k12
      all_goals clear sl2 sl3 sl7
      all_goals rcases hW3 with hA | ⟨hA, hf1, hB⟩
      all_goals first | rw [decide_eq_true hA] at k15 | (rw [decide_eq_false hA] at k15; rw [decide_eq_true hB] at k16; have hwn : ¬ wv = 0 := fun h => by have := hwf h; rw [hf1] at this; cases this)
      (repeat' (first | refine zss ?_ | ((first | (with_reducible first | apply At.val | apply AtQ.val)); (exact zprA); exact rfl) | refine zs0 ?_ | ((with_reducible first | apply At.c1 | apply At.c0); exact rfl; exact rfl; exact k14 _; exact ztk; kernel_rfl; rintro v' m' B' hm' ⟨p9, d9, rfl, sl9, rfl⟩; (try replace sl0 := sl0.mono hm'); (try replace sl2 := sl2.mono hm'); (try replace sl3 := sl3.mono hm'); (try replace sl5 := sl5.mono hm'); (try replace sl6 := sl6.mono hm'); (try replace sl7 := sl7.mono hm'); (try replace sl8 := sl8.mono hm'); (try replace sl9 := sl9.mono hm'); (try (have hq0 : hm' = Mem.le_refl _ := rfl; clear hq0 hm'))) | ((with_reducible first | apply AtM1.cr | apply AtQ.cr | apply At.cr); exact rfl; exact rfl; exact fun _ hmm => k15 _ _ _ (sl9.mono hmm) (sl8.mono hmm); exact ztk; kernel_rfl) | ((with_reducible first | apply AtM1.cr | apply AtQ.cr | apply At.cr); exact rfl; exact rfl; exact fun _ hmm => k16 _ _ _ (sl9.mono hmm) (sl5.mono hmm); exact ztk; kernel_rfl) | ((with_reducible apply At.box (d := 3)); exact rfl; exact rfl; exact rfl; intro b3) | ((with_reducible apply At.alloc (d := 13)); exact rfl; exact rfl; intro b13) | (refine zsp ?_ ?_ <;> (intro hc; (try simp only [zhcs, reduceCtorEq] at hc); (try (exfalso; first | (first | omega | exact absurd rfl hc | exact absurd hc hwn) | contradiction | omega | exact absurd rfl hc | exact absurd (by decide) hc))))))
      all_goals ((with_reducible refine At.reachk ((⟨j + 1, m', p9, d9, H3, D8, n3⟩ : WS)) ?_ ?_ ?_ ?_); exact zsubs; exact zml; exact zente; exact ⟨⟨h0, Mem.le_trans hm1 zml, sl6, sl9, ⟨q9.down, q9.pend, q9.arm0, q9.arm1, q9.idle⟩, by dsimp only; omega⟩, by dsimp only; omega⟩)
    · obtain rfl : j = l.length := by omega
      clear hz
      (repeat' (first | refine zss ?_ | ((first | (with_reducible first | apply At.val | apply AtQ.val)); (exact zprA); exact rfl) | refine zs0 ?_ | ((with_reducible apply At.box (d := 3)); exact rfl; exact rfl; exact rfl; intro b3) | ((with_reducible apply At.alloc (d := 13)); exact rfl; exact rfl; intro b13) | (refine zsp ?_ ?_ <;> (intro hc; (try simp only [zhcs, reduceCtorEq] at hc); (try (exfalso; first | (first | omega | exact absurd rfl hc) | contradiction | omega | exact absurd rfl hc | exact absurd (by decide) hc))))))
      all_goals ((with_reducible apply At.retB1 (B := [])); exact rfl; exact rfl; exact zml; exact zkp; exact ⟨rfl, rfl⟩)
  · have k2' : ∀ m', m.le m' → Ct Try.prog 6 #[kv r a b e x y w c g, .slice p l.length d] m' [] (fun v m'' B => v = .bool false ∧ m' = m'' ∧ B = []) := fun m' hmm => (k2 m' hmm).mono fun u m2 B _ ⟨q, e1, e2, e3⟩ => ⟨by
      rw [e1]
      cases q
      · rfl
      · exact absurd (e2.1 rfl) hf, e3⟩
    refine Ct.enterV (by rfl) Try.func4 rfl Try.ntmps4 rfl (fun w0 Rest => ?_)
    (repeat' (first | refine zss ?_ | ((first | (with_reducible first | apply At.val | apply AtQ.val)); (exact zprA); exact rfl) | refine zs0 ?_ | ((with_reducible first | apply AtM1.callp | apply AtQ.callp | apply At.callp); kernel_rfl; exact rfl; exact rfl; exact k1) | ((with_reducible first | apply At.c1 | apply At.c0); exact rfl; exact rfl; exact k2' _ zml; exact ztk; kernel_rfl; rintro v' m' B' hm' ⟨rfl, rfl, rfl⟩; (try replace sl0 := sl0.mono hm'); (try replace sl2 := sl2.mono hm'); (try replace sl3 := sl3.mono hm'); (try replace sl5 := sl5.mono hm'); (try replace sl6 := sl6.mono hm'); (try replace sl7 := sl7.mono hm'); (try replace sl8 := sl8.mono hm'); (try replace sl9 := sl9.mono hm'); (try (have hq0 : hm' = Mem.le_refl _ := rfl; clear hq0 hm'))) | ((with_reducible apply At.box (d := 3)); exact rfl; exact rfl; exact rfl; intro b3) | ((with_reducible apply At.alloc (d := 13)); exact rfl; exact rfl; intro b13) | (refine zsp ?_ ?_ <;> (intro hc; (try simp only [zhcs, reduceCtorEq] at hc); (try (exfalso; first | (first | omega | exact absurd rfl hc) | contradiction | omega | exact absurd rfl hc | exact absurd (by decide) hc))))))
    all_goals ((with_reducible apply At.retB1 (B := [])); exact rfl; exact rfl; exact zml; exact zkp; exact ⟨rfl, rfl⟩)
end
end Td
end Go.Proofs.Ytijgnbedilipdaa
namespace Go.Proofs.Ytijgnbedilipdaa
open Go Go.J
attribute [local irreducible] At AtQ AtM AtM1 PR Ct Pu Rd Res.blk Res.own Res.ex Res.obj RVs RV CW LW YC BK bodyPostM roundPost Dk.R Cod.W
namespace Td
open Dk Conf Redo
section
variable {r a b e x y w c g : Int} {t h N n : Nat} {H W V : List (List UInt8)} {l k : List Chg}
/-- changes that may be, and what home is behind them -/
structure Chs (h N : Nat) (l : List Chg) (H W : List (List UInt8)) : Prop where
  all : ∀ z ∈ l, (h : Int) ≤ z.s ∧ z.s < (N : Int) ∧ z.t.length = 512
  nxt : ∀ S : List (List UInt8), S.length = N → S.drop h = H → (pa S l).drop h = W
theorem Chs.of (L : List Nat) (by_ : Int) (hN : h < N) (hH : H.length = N - h) : Chs h N (chP (h : Int) by_ L (N - h) L.length) H (nowP by_ L H L.length) where
  all := fun z hz => by
    unfold chP at hz
    obtain ⟨i, _, rfl⟩ := List.mem_map.1 hz
    have := Nat.mod_lt (L[i]!) (show 0 < N - h by omega)
    exact ⟨by dsimp only; omega, by dsimp only; omega, tb_len ..⟩
  nxt := fun S hS e => by
    subst e
    have := now_drop (h := h) S by_ L L.length
    rwa [hH] at this
theorem Chs.app (p : Chs h N l H W) (q : Chs h N k W V) : Chs h N (l ++ k) H V where
  all := fun z hz => (List.mem_append.1 hz).elim (p.all z) (q.all z)
  nxt := fun S hS e => by rw [pa_append]; exact q.nxt _ (by rw [pa_len]; exact hS) (p.nxt S hS e)
theorem commitG {m : Mem} (v : Env r a b e x y w c g t h N) (d0 : Nat) (D : Dsk) (p : Option Addr) (d : Nat) (q : Rst h N D n H) (ha : D.arm = 0) (hn : n < 1000) (k : Chs h N l H W) (hlg : (l.length : Int) ≤ g) (h120 : l.length ≤ 120) (sl0 : Sl m fC 2 p d l) :
    Ct Try.prog 12 #[ptr d0, kv r a b e x y w c g, .slice p l.length d] m [R d0 D] (fun v m' B => v = .int .i64 0 ∧ ∃ D', B = [R d0 D'] ∧ Rst h N D' (n + min 1 l.length) W ∧ D'.arm = 0) := by
  have hv := v.num
  have hN := v.hN
  have hfew := v.few
  by_cases h0 : l.length = 0
  · obtain rfl : l = [] := List.eq_nil_of_length_eq_zero h0
    have hw : H = W := by
      have := k.nxt D.safe q.idle.len q.idle.home
      rw [← this]
      exact q.idle.home.symm
    subst hw
    exact (commitE v d0 D p d q hn sl0).mono fun u m' B _ ⟨e1, e2⟩ => ⟨e1, D, e2, q, ha⟩
  · have hgd : Good t h N l := ⟨hv.1, hN, by omega, by omega, h120, k.all⟩
    have hm : ∀ z ∈ l, may g D z := fun z hz => by
      have := hgd.all z hz
      unfold may
      rw [v.hh, q.idle.len]
      exact this
    have hc := commit_ (m := m) (r := r) (a := a) (b := b) (e := e) (x := x) (y := y) (w := w) (c := c) (g := g) d0 n D p d _ v.ok (by rw [v.sz, q.idle.len]) (q.hl v) q.down q.pend (by rw [q.idle.len]; omega) (by omega) q.idle.ptr sl0 hgd.one hgd.few hlg hm (q.fit v)
    rw [v.ht] at hc
    have ho := commit_out q.down q.arm0 q.pend hgd q.idle
    rw [k.nxt D.safe q.idle.len q.idle.home] at ho
    have h1 : n + min 1 l.length = n + 1 := by omega
    rw [h1]
    refine hc.mono fun u m' B _ ⟨e1, e2⟩ => ?_
    rcases ho with ⟨S', a', e3, ea, eb, hi⟩ | ⟨h3, _⟩
    · rw [e3] at e1 e2
      exact ⟨e1, _, e2, ⟨rfl, rfl, ea, by dsimp only; omega, hi⟩, by dsimp only; omega⟩
    · omega
/-- the same of what one owns -/
theorem commitO {m : Mem} (v : Env r a b e x y w c g t h N) (d0 : Nat) (D : Dsk) (p : Option Addr) (d : Nat) (q : Rst h N D n H) (ha : D.arm = 0) (hn : n < 1000) (k : Chs h N l H W) (hlg : (l.length : Int) ≤ g) (h120 : l.length ≤ 120) :
    Ct Try.prog 12 #[ptr d0, kv r a b e x y w c g, .slice p l.length d] m [.own fC 2 60 p d l, R d0 D] (fun v m' B => v = .int .i64 0 ∧ ∃ D', B = [R d0 D'] ∧ Rst h N D' (n + min 1 l.length) W ∧ D'.arm = 0) :=
  Ct.frz inferInstance fun m' _ sl => commitG v d0 D p d q ha hn k hlg h120 sl
/-- a commit's changes, as those that may be -/
theorem changesG {m : Mem} (v : Env r a b e x y w c g t h N) (z : Cm) (p : Option Addr) (d : Nat) (H : List (List UInt8)) (hH : H.length = N - h) (hL : z.L.length ≤ 40) (hz : CmOk m z) (sl0 : Sl m Ls.fS 1 p d H) :
    Ct Try.prog 11 #[.agg z.cells.toArray, kv r a b e x y w c g, .slice p H.length d] m [] (fun v m' B => ∃ X W pc dc pn dn, v = .tuple #[.slice pc X.length dc, .slice pn W.length dn] ∧
      Sl m' fC 2 pc dc X ∧ Sl m' Ls.fS 1 pn dn W ∧ Chs h N X H W ∧ X.length = z.L.length ∧ W.length = N - h ∧ B = []) := by
  have hN := v.hN
  have hfew := v.few
  have k := changes (r := r) (a := a) (b := b) (e := e) (x := x) (y := y) (w := w) (c := c) (g := g) (m := m) z p d H v.ok (by omega) (by omega) hL hz.hL hz.hb sl0 hz.s1
  rw [v.hh, hH] at k
  rw [hH]
  exact k.mono fun u m' B _ ⟨pc, dc, pn, dn, e1, e2, e3, e4⟩ => ⟨_, _, pc, dc, pn, dn, e1, e2, e3, Chs.of z.L z.by_ hN hH, chP_len .., by rw [nowP_len]; exact hH, e4⟩
theorem homesG {m : Mem} (v : Env r a b e x y w c g t h N) (by_ : Int) (hb : 0 ≤ by_ ∧ by_ < 256) :
    Ct Try.prog 9 #[kv r a b e x y w c g, .int .u8 by_] m [] (fun v m' B => ∃ p d H, v = .slice p H.length d ∧ Sl m' Ls.fS 1 p d H ∧ H.length = N - h ∧ (∀ z ∈ H, z.length = 512) ∧ B = []) := by
  have hN := v.hN
  have hfew := v.few
  exact (homes (m := m) by_ N (N - h) v.ok v.sz (by omega) (by rw [v.hh]; omega) (by omega) hb).mono fun u m' B _ ⟨p, d, e1, e2, e3⟩ => ⟨p, d, _, e1, e2, hom_len .., hom_512 _ _, e3⟩
theorem formatG {m : Mem} (v : Env r a b e x y w c g t h N) (d0 : Nat) (p : Option Addr) (d : Nat) (hH : H.length = N - h) (h5 : ∀ z ∈ H, z.length = 512) (sl0 : Sl m Ls.fS 1 p d H) :
    Ct Try.prog 10 #[ptr d0, kv r a b e x y w c g, .slice p H.length d] m [R d0 (mkD N)] (fun v m' B => v = .int .i64 0 ∧ ∃ D', B = [R d0 D'] ∧ Rst h N D' 1 H ∧ D'.arm = 0) :=
  formatQ v d0 (mkD N) p d rfl rfl rfl (by unfold mkD; exact List.length_replicate) hH h5 sl0
theorem sameT {m : Mem} (p : Option Addr) (c : Nat) (a : List (List UInt8)) (q : Option Addr) (d : Nat) (ha : a.length ≤ 1000000) (sl0 : Sl m Ls.fS 1 p c a) (sl1 : Sl m Ls.fS 1 q d a) :
    Rd Try.prog 15 #[.slice p a.length c, .slice q a.length d] m [] (.bool true) := by
  have := same_ p c a q d a ha ha sl0 sl1
  rwa [decide_eq_true rfl] at this
end
end Td
end Go.Proofs.Ytijgnbedilipdaa
