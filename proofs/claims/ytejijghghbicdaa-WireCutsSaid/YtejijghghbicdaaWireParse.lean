/-
  What bytes are as a request: as a plain function on lists of bytes.
-/
import Derived.Test.YtejijghghbicdaaWireReader
namespace Go.Proofs.Ytejijghghbicdaa

/-- A cursor as it stands: the bytes that are left, and whether something was no number. -/
structure Cur where
  l : List Nat
  b : Bool
def Cur.i (c : Cur) : Int := (rdV topI c.l : Nat)
def Cur.ni (c : Cur) : Cur := ⟨rdL topI c.l, rdB topI c.l c.b⟩
def Cur.w (c : Cur) : Nat := rdV topW c.l
def Cur.nw (c : Cur) : Cur := ⟨rdL topW c.l, rdB topW c.l c.b⟩
def Cur.end_ (c : Cur) : Bool := !c.b && c.l.isEmpty
def Cur.two (c : Cur) : Cur := c.ni.ni
/-- The request of bytes, and how the cursor stands behind it. -/
def rq (l : List Nat) : Req × Cur :=
  let c : Cur := Cur.two ⟨l, false⟩
  let k := Cur.i ⟨l, false⟩
  let id := Cur.i (Cur.ni ⟨l, false⟩)
  if k = 1 ∨ k = 2 then (⟨k, id, c.i, c.ni.i, 0, 0⟩, c.two)
  else if k = 3 then (⟨k, id, 0, 0, c.i, c.ni.i⟩, c.two)
  else if k = 4 then (⟨k, id, 0, 0, 0, c.i⟩, c.ni)
  else (⟨k, id, 0, 0, 0, 0⟩, c)
def readReq (l : List Nat) : Req × Int :=
  if 64 < l.length then (Req.none_, 3)
  else if (rq l).2.end_ && (rq l).1.may then ((rq l).1, 0)
  else (Req.none_, 4)
theorem rq_12 {l : List Nat} (h : Cur.i ⟨l, false⟩ = 1 ∨ Cur.i ⟨l, false⟩ = 2) : rq l = (⟨Cur.i ⟨l, false⟩, Cur.i (Cur.ni ⟨l, false⟩), (Cur.two ⟨l, false⟩).i, (Cur.two ⟨l, false⟩).ni.i, 0, 0⟩, (Cur.two ⟨l, false⟩).two) := by
  unfold rq; simp only; rw [if_pos h]
theorem rq_3 {l : List Nat} (h : Cur.i ⟨l, false⟩ = 3) : rq l = (⟨Cur.i ⟨l, false⟩, Cur.i (Cur.ni ⟨l, false⟩), 0, 0, (Cur.two ⟨l, false⟩).i, (Cur.two ⟨l, false⟩).ni.i⟩, (Cur.two ⟨l, false⟩).two) := by
  unfold rq; simp only; rw [if_neg (by omega), if_pos h]
theorem rq_4 {l : List Nat} (h : Cur.i ⟨l, false⟩ = 4) : rq l = (⟨Cur.i ⟨l, false⟩, Cur.i (Cur.ni ⟨l, false⟩), 0, 0, 0, (Cur.two ⟨l, false⟩).i⟩, (Cur.two ⟨l, false⟩).ni) := by
  unfold rq; simp only; rw [if_neg (by omega), if_neg (by omega), if_pos h]
theorem rq_5 {l : List Nat} (h1 : Cur.i ⟨l, false⟩ ≠ 1) (h2 : Cur.i ⟨l, false⟩ ≠ 2) (h3 : Cur.i ⟨l, false⟩ ≠ 3) (h4 : Cur.i ⟨l, false⟩ ≠ 4) : rq l = (⟨Cur.i ⟨l, false⟩, Cur.i (Cur.ni ⟨l, false⟩), 0, 0, 0, 0⟩, Cur.two ⟨l, false⟩) := by
  unfold rq; simp only; rw [if_neg (by omega), if_neg (by omega), if_neg (by omega)]
theorem readReq_long {l : List Nat} (h : 64 < l.length) : readReq l = (Req.none_, 3) := by unfold readReq; rw [if_pos h]
theorem readReq_yes {l : List Nat} (h : ¬ 64 < l.length) (he : (rq l).2.end_ = true) (hm : (rq l).1.may = true) : readReq l = ((rq l).1, 0) := by
  unfold readReq; rw [if_neg h, he, hm]; rfl
theorem readReq_end {l : List Nat} (h : ¬ 64 < l.length) (he : (rq l).2.end_ = false) : readReq l = (Req.none_, 4) := by
  unfold readReq; rw [if_neg h, he]; rfl
theorem readReq_may {l : List Nat} (h : ¬ 64 < l.length) (hm : (rq l).1.may = false) : readReq l = (Req.none_, 4) := by
  unfold readReq; rw [if_neg h, hm, Bool.and_false]; rfl
end Go.Proofs.Ytejijghghbicdaa
