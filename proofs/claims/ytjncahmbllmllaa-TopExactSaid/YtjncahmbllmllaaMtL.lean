/- MatchTells: the walk. -/
import Derived.Test.YtjncahmbllmllaaMtE
import Derived.Test.YtjncahmbllmllaaJT
set_option linter.unusedSimpArgs false
set_option linter.unusedVariables false
set_option linter.unusedSectionVars false
set_option maxRecDepth 20000
set_option maxHeartbeats 4000000
namespace Go.Proofs.Ytjncahmbllmllaa
open Go Go.J
attribute [local irreducible] At AtQ AtM AtM1 PR Ct Pu Rd Res.blk Res.own Res.ex RVs RV
namespace Mt
abbrev eM : Mat := ⟨1, [97], [120, 121]⟩
abbrev oM : Mat := ⟨2, [99], []⟩
abbrev bM : Mat := ⟨3, [97], [120]⟩
abbrev zM : Mat := ⟨0, [], []⟩
abbrev lA : List Lab := [⟨[97], [120, 121]⟩]
theorem hitC {m : Mem} (x : Mat) (p : Option Addr) (c n : Nat) (l : List Lab) (w : Bool) (hl : l.length ≤ 1000000000) (hn : l.length = n) (hw : hit x l = w) (sl0 : Sl m Lb.cells 2 p c l) :
    Rd Try.prog 18 #[x.val, .slice p n c] m [] (.bool w) := by subst hn hw; exact hits x p c l hl sl0
theorem allC {m : Mem} (p : Option Addr) (c n : Nat) (l : List Lab) (q : Option Addr) (d k : Nat) (ms : List Mat) (w : Bool) (hl : l.length ≤ 1000000000) (hm : ms.length ≤ 1000000000) (hn : l.length = n) (hk : ms.length = k) (hw : all ms l = w) (sl0 : Sl m Lb.cells 2 p c l) (sl1 : Sl m cells 3 q d ms) :
    Rd Try.prog 13 #[.slice q k d, .slice p n c] m [] (.bool w) := by subst hn hk hw; exact allM p c l q d ms hl hm sl0 sl1
theorem checkC {m : Mem} (q : Option Addr) (d n : Nat) (ms : List Mat) (w : Int) (hn : ms.length = n) (hm : ms.length ≤ 1000000000) (hx : ∀ i, i < ms.length → Mid ms[i]!) (hw : chk ms = w) (sl1 : Sl m cells 3 q d ms) :
    Rd Try.prog 12 #[.slice q n d] m [] (.int .i64 w) := by subst hn hw; exact checkM q d ms hm hx sl1
theorem exactC {m : Mem} (q : Option Addr) (d k : Nat) (ms : List Mat) (l : List Lab) (n : Nat) (w : Bool) (hm : ms.length ≤ 1000000) (hx : Mids ms) (hk : ms.length = k) (h1 : exL ms = l) (h2 : exB ms = w) (h3 : l.length = n) (sl0 : Sl m cells 3 q d ms) :
    Ct Try.prog 9 #[.slice q k d] m [] (fun v m' B => B = [] ∧ ∃ p c, v = .tuple #[.slice p n c, .bool w] ∧ Sl m' Lb.cells 2 p c l) := by subst hk h1 h2 h3; exact exactM q d ms hm hx sl0
theorem pickC {m : Mem} (q : Option Addr) (d k : Nat) (ms : List Mat) (q2 : Option Addr) (d2 k2 : Nat) (ls : List SL) (l : List Int) (n : Nat) (hm : ms.length ≤ 1000000000) (hls : ls.length ≤ 1000000000) (hk : ms.length = k) (hk2 : ls.length = k2) (hw : pickI ms ls ls.length = l) (hn : l.length = n) (sl0 : Sl m cells 3 q d ms) (sl1 : Sl m Ls.fX 1 q2 d2 ls) (hL : Lbs m ls) :
    Ct Try.prog 10 #[.slice q k d, .slice q2 k2 d2] m [] (fun v m' B => B = [] ∧ ∃ p c, v = .slice p n c ∧ Sl m' Ls.fI 1 p c l) := by subst hn hw hk hk2; exact pickM q d ms q2 d2 ls hm hls sl0 sl1 hL
theorem mids1 (x : Mat) (h : Mid x) : Mids [x] := fun i hi => by
  have : i = 0 := by simpa using hi
  subst this; exact h
theorem lbs3 {m : Mem} {p : Option Addr} {c : Nat} (h : Sl m Lb.cells 2 p c lA) : Lbs m [⟨[], none, 0⟩, ⟨lA, p, c⟩, ⟨lA, p, c⟩] := fun i hi => by
  have : i = 0 ∨ i = 1 ∨ i = 2 := by have : i < 3 := hi; omega
  rcases this with rfl | rfl | rfl
  · exact ⟨Nat.zero_le _, Sl.empty _ inferInstance⟩
  · exact ⟨(by decide : 1 ≤ 1000000000), h⟩
  · exact ⟨(by decide : 1 ≤ 1000000000), h⟩
theorem mids3 : Mids [eM, oM, bM] := fun i hi => by
  have : i = 0 ∨ i = 1 ∨ i = 2 := by have : i < 3 := hi; omega
  rcases this with rfl | rfl | rfl <;> exact ⟨by decide, by decide⟩
theorem pick3 {p : Option Addr} {c : Nat} : pickI [eM] [⟨[], none, 0⟩, ⟨lA, p, c⟩, ⟨lA, p, c⟩] 3 = [1, 2] := by
  rw [pickI_snoc, pickI_snoc, pickI_snoc]
  rw [show all [eM] ([⟨[], none, 0⟩, ⟨lA, p, c⟩, ⟨lA, p, c⟩] : List SL)[0]!.l = all [eM] [] from rfl, show all [eM] ([⟨[], none, 0⟩, ⟨lA, p, c⟩, ⟨lA, p, c⟩] : List SL)[1]!.l = all [eM] lA from rfl, show all [eM] ([⟨[], none, 0⟩, ⟨lA, p, c⟩, ⟨lA, p, c⟩] : List SL)[2]!.l = all [eM] lA from rfl]
  rw [show all [eM] [] = false by decide, show all [eM] lA = true by decide]
  rfl
end Mt
end Go.Proofs.Ytjncahmbllmllaa
