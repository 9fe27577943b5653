/-
  What bytes are as a reply, and as a batch: plain laws.
-/
import Derived.Test.YtejijghghbicdaaWireReply
import Derived.Test.YtejijghghbicdaaWireReadPairs
import Derived.Test.YtejijghghbicdaaWireLaw
namespace Go.Proofs.Ytejijghghbicdaa
set_option linter.unusedSimpArgs false
set_option linter.unusedVariables false

/-- A reply. -/
structure Rep where
  id : Int
  e : Int
  d : Bool
  ps : List Pr
def Rep.may (r : Rep) : Bool := repB r.id r.e r.d r.ps
def Rep.bytes (r : Rep) : List Nat := repBytes r.id r.e r.d r.ps
/-- A reply as it comes: its numbers are ints, its pairs are pairs. -/
def Rep.ok (r : Rep) : Prop := IN64 r.id ∧ IN64 r.e ∧ ∀ p ∈ r.ps, p.ok
/-- A batch. -/
structure Bat where
  r : Int
  s : Int
  ps : List Pr
def Bat.may (b : Bat) : Bool := batB b.r b.s b.ps
def Bat.bytes (b : Bat) : List Nat := batBytes b.r b.s b.ps
def Bat.ok (b : Bat) : Prop := IN64 b.r ∧ IN64 b.s ∧ ∀ p ∈ b.ps, p.ok

theorem rise_pos {l : List Pr} (h : riseB l = true) : ∀ p ∈ l, 0 ≤ p.v ∧ p.v < 65536 := by
  intro p hp
  obtain ⟨i, hi, e⟩ := List.mem_iff_getElem.1 hp
  unfold riseB at h
  rw [List.all_eq_true] at h
  have := h i (by simpa using hi)
  unfold okAt at this
  rw [at_some (p := p) (by rw [List.getElem?_eq_getElem hi, e])] at this
  simp at this; omega
theorem ci_in (c : Cur) : IN64 c.i ∧ 0 ≤ c.i := by
  have := rdV_le topI c.l; have := topI_cast
  unfold Cur.i IN64; omega
theorem cw_in (c : Cur) : W64 c.w := by
  have := rdV_le topW c.l; have := topW_cast
  unfold Cur.w W64; omega
theorem rdPairs_ok : ∀ (n : Nat) (c : Cur), ∀ p ∈ (rdPairs n c).1, p.ok
  | 0, c => by simp [rdPairs]
  | n + 1, c => by
    cases h : c.b
    · rw [rdPairs_succ h]
      intro p hp
      rcases List.mem_cons.1 hp with rfl | hp
      · exact ⟨(ci_in c).1, cw_in c.ni⟩
      · exact rdPairs_ok n _ p hp
    · rw [rdPairs_bad h]; simp
theorem rdPairs_enc : ∀ (ps : List Pr), (∀ p ∈ ps, p.ok ∧ 0 ≤ p.v) → ∀ rest, rdPairs ps.length ⟨prBytes ps ++ rest, false⟩ = (ps, ⟨rest, false⟩)
  | [], _, rest => by simp [rdPairs, prBytes]
  | p :: ps, h, rest => by
    have hp := h p (List.mem_cons_self ..)
    rw [List.length_cons, rdPairs_succ rfl, prBytes_cons]
    have e : enc (nat0 p.v) ++ (enc p.x ++ prBytes ps) ++ rest = enc (nat0 p.v) ++ (enc p.x ++ (prBytes ps ++ rest)) := by simp
    rw [e]
    have c1 := ci_enc hp.1.1 hp.2 (enc p.x ++ (prBytes ps ++ rest)) false
    have c2 := cw_enc hp.1.2 (prBytes ps ++ rest) false
    rw [c1.1, c1.2, c2.1, c2.2, rdPairs_enc ps (fun q hq => h q (List.mem_cons_of_mem _ hq)) rest]
theorem rdPrs_enc {ps : List Pr} (h : ∀ p ∈ ps, p.ok ∧ 0 ≤ p.v) (hl : ps.length ≤ 1000000) (rest : List Nat) : rdPrs ⟨prsBytes ps ++ rest, false⟩ = (ps, ⟨rest, false⟩) := by
  have hi : IN64 ((ps.length : Nat) : Int) := by unfold IN64; omega
  have c1 := ci_enc hi (by omega) (prBytes ps ++ rest) false
  rw [nat0_nat] at c1
  have e : prsBytes ps ++ rest = enc ps.length ++ (prBytes ps ++ rest) := by simp [prsBytes]
  unfold rdPrs
  rw [e]
  have hn : rdV topI (enc ps.length ++ (prBytes ps ++ rest)) = ps.length := by
    have := c1.1; unfold Cur.i at this; simp only at this; omega
  simp only
  rw [hn, c1.2]
  exact rdPairs_enc ps h rest
/-- Pairs that were read from a cursor that stays good were put there. -/
theorem rdPairs_inv : ∀ (n : Nat) (c : Cur), (∀ d ∈ c.l, d < 256) → (rdPairs n c).2.b = false → c.b = false ∧ (rdPairs n c).1.length = n ∧ c.l = prBytes (rdPairs n c).1 ++ (rdPairs n c).2.l
  | 0, c, hl, h => by simp [rdPairs, prBytes] at h ⊢; exact h
  | n + 1, c, hl, h => by
    cases hb : c.b
    · rw [rdPairs_succ hb] at h ⊢
      have h1 := ni_byte hl
      have h2 := nw_byte h1
      obtain ⟨b2, hlen, e⟩ := rdPairs_inv n c.ni.nw h2 h
      obtain ⟨b1, e1, _⟩ := nw_inv h1 b2
      obtain ⟨b0, e0, _, _⟩ := ni_inv hl b1
      refine ⟨rfl, by simp [hlen], ?_⟩
      rw [prBytes_cons]
      simp only
      conv => lhs; rw [e0, e1, e]
      simp [List.append_assoc]
    · rw [rdPairs_bad hb] at h
      rw [hb] at h; cases h
theorem rdPrs_inv {c : Cur} (hl : ∀ d ∈ c.l, d < 256) (h : (rdPrs c).2.b = false) : c.b = false ∧ c.l = prsBytes (rdPrs c).1 ++ (rdPrs c).2.l := by
  unfold rdPrs at h ⊢
  obtain ⟨b1, hlen, e⟩ := rdPairs_inv _ c.ni (ni_byte hl) h
  obtain ⟨b0, e0, _, _⟩ := ni_inv hl b1
  refine ⟨b0, ?_⟩
  unfold prsBytes
  rw [hlen]
  conv => lhs; rw [e0, e]
  rw [show nat0 c.i = rdV topI c.l from by unfold Cur.i; exact nat0_nat _]
  simp [List.append_assoc]

/-- The reply of bytes, and how the cursor stands behind it. -/
def rpP (l : List Nat) : Rep × Cur :=
  (⟨Cur.i ⟨l, false⟩, (Cur.ni ⟨l, false⟩).i, decide ((Cur.two ⟨l, false⟩).i = 1), (rdPrs (Cur.two ⟨l, false⟩).ni).1⟩, (rdPrs (Cur.two ⟨l, false⟩).ni).2)
def readRep (l : List Nat) : Option Rep := if (rpP l).1.may = true ∧ (rpP l).1.bytes = l then some (rpP l).1 else none
theorem rpP_ok (l : List Nat) : (rpP l).1.ok := ⟨(ci_in _).1, (ci_in _).1, rdPairs_ok _ _⟩
theorem bit_in (d : Bool) : IN64 (bitI d) ∧ 0 ≤ bitI d := by cases d <;> (unfold bitI IN64; simp)
theorem rep_pos {r : Rep} (h : r.may = true) : 0 ≤ r.id ∧ 0 ≤ r.e ∧ ∀ p ∈ r.ps, 0 ≤ p.v := by
  unfold Rep.may repB at h
  simp only [Bool.and_eq_true, decide_eq_true_eq] at h
  exact ⟨h.1.1.1, h.1.1.2.1, fun p hp => (rise_pos h.1.2 p hp).1⟩
/-- A reply's bytes, and more behind them, are read as it; what is behind is left. -/
theorem rpP_bytes {r : Rep} (hok : r.ok) (hm : r.may = true) (hl : r.ps.length ≤ 1000000) (rest : List Nat) : rpP (r.bytes ++ rest) = (r, ⟨rest, false⟩) := by
  obtain ⟨o1, o2, o3⟩ := hok
  obtain ⟨p1, p2, p3⟩ := rep_pos hm
  have e : r.bytes ++ rest = enc (nat0 r.id) ++ (enc (nat0 r.e) ++ (enc (nat0 (bitI r.d)) ++ (prsBytes r.ps ++ rest))) := by
    unfold Rep.bytes repBytes; simp [encs]
  have c1 := ci_enc o1 p1 (enc (nat0 r.e) ++ (enc (nat0 (bitI r.d)) ++ (prsBytes r.ps ++ rest))) false
  have c2 := ci_enc o2 p2 (enc (nat0 (bitI r.d)) ++ (prsBytes r.ps ++ rest)) false
  have c3 := ci_enc (bit_in r.d).1 (bit_in r.d).2 (prsBytes r.ps ++ rest) false
  have c4 := rdPrs_enc (fun p hp => ⟨o3 p hp, p3 p hp⟩) hl rest
  have hd : decide (bitI r.d = 1) = r.d := by cases r.d <;> simp [bitI]
  unfold rpP Cur.two
  rw [e, c1.1, c1.2, c2.1, c2.2, c3.1, c3.2, c4, hd]
theorem rdPairs_count : ∀ (n : Nat) (c : Cur) , (rdPairs n c).1.length + (rdPairs n c).2.l.length ≤ c.l.length + 1
  | 0, c => by simp [rdPairs]
  | n + 1, c => by
    cases h : c.b
    · rw [rdPairs_succ h]
      have h1 := ni_len c
      have h2 := nw_len c.ni
      have ih := rdPairs_count n c.ni.nw
      simp only [List.length_cons]
      cases h3 : c.ni.nw.b
      · rw [h3] at h2; simp at *; omega
      · have : rdPairs n c.ni.nw = ([], c.ni.nw) := rdPairs_bad h3
        rw [this]; simp only [List.length_nil]
        have h4 : c.ni.nw.l.length ≤ c.ni.l.length := by split at h2 <;> omega
        have h5 : c.ni.l.length ≤ c.l.length := by split at h1 <;> omega
        omega
    · rw [rdPairs_bad h]; simp
theorem rdPrs_count (c : Cur) : (rdPrs c).1.length ≤ c.l.length + 1 := by
  have h := rdPairs_count (rdV topI c.l) c.ni
  have h1 := ni_len c
  unfold rdPrs
  split at h1 <;> omega
theorem two_len (c : Cur) : c.two.l.length ≤ c.l.length := by
  have h1 := ni_len c
  have h2 := ni_len c.ni
  unfold Cur.two
  split at h1 <;> split at h2 <;> omega
theorem rpP_count (l : List Nat) : (rpP l).1.ps.length ≤ l.length + 1 := by
  have h1 := two_len ⟨l, false⟩
  have h2 := ni_len (Cur.two ⟨l, false⟩)
  have h3 := rdPrs_count (Cur.two ⟨l, false⟩).ni
  have : (Cur.two ⟨l, false⟩).ni.l.length ≤ l.length := by
    simp only at h1; split at h2 <;> omega
  show (rdPrs (Cur.two ⟨l, false⟩).ni).1.length ≤ _
  omega
theorem readRep_bytes {r : Rep} (hok : r.ok) (hm : r.may = true) (hl : r.ps.length ≤ 1000000) : readRep r.bytes = some r := by
  have h := rpP_bytes hok hm hl []
  rw [List.append_nil] at h
  unfold readRep
  rw [h, if_pos ⟨hm, rfl⟩]
theorem readRep_inv {l : List Nat} {r : Rep} (h : readRep l = some r) : r = (rpP l).1 ∧ r.may = true ∧ r.bytes = l ∧ r.ok := by
  unfold readRep at h
  split at h
  · rename_i hc
    injection h with h
    subst h
    exact ⟨rfl, hc.1, hc.2, rpP_ok l⟩
  · cases h
theorem readRep_more {r : Rep} (hok : r.ok) (hm : r.may = true) (hl : r.ps.length ≤ 1000000) {q : List Nat} (hq : q ≠ []) : readRep (r.bytes ++ q) = none := by
  cases h : readRep (r.bytes ++ q) with
  | none => rfl
  | some r' =>
    obtain ⟨e1, _, e3, _⟩ := readRep_inv h
    rw [rpP_bytes hok hm hl q] at e1
    simp only at e1
    subst e1
    exfalso
    have := congrArg List.length e3
    simp at this
    exact hq this
/-- A strict part from the front of a reply's bytes is no reply's. -/
theorem readRep_cut {r : Rep} (hok : r.ok) (hm : r.may = true) (hl : r.ps.length ≤ 1000000) {p q : List Nat} (h : r.bytes = p ++ q) (hq : q ≠ []) (hpl : p.length ≤ 900000) : readRep p = none := by
  cases hp : readRep p with
  | none => rfl
  | some r' =>
    obtain ⟨_, hm', hb', hok'⟩ := readRep_inv hp
    have hlen : r'.ps.length ≤ 1000000 := by
      have := rpP_count p
      have e := (readRep_inv hp).1
      rw [e]; omega
    have h1 := readRep_more hok' hm' hlen hq
    rw [hb', ← h, readRep_bytes hok hm hl] at h1
    cases h1

/-- The batch of bytes, and how the cursor stands behind it. -/
def btP (l : List Nat) : Bat × Cur := (⟨Cur.i ⟨l, false⟩, (Cur.ni ⟨l, false⟩).i, (rdPrs (Cur.two ⟨l, false⟩)).1⟩, (rdPrs (Cur.two ⟨l, false⟩)).2)
def readBat (l : List Nat) : Option Bat := if (btP l).2.end_ = true ∧ riseB (btP l).1.ps = true then some (btP l).1 else none
theorem btP_ok (l : List Nat) : (btP l).1.ok := ⟨(ci_in _).1, (ci_in _).1, rdPairs_ok _ _⟩
theorem bat_pos {b : Bat} (h : b.may = true) : 0 ≤ b.r ∧ 0 ≤ b.s ∧ riseB b.ps = true ∧ ∀ p ∈ b.ps, 0 ≤ p.v := by
  unfold Bat.may batB at h
  simp only [Bool.and_eq_true, decide_eq_true_eq] at h
  exact ⟨h.1.1, h.1.2, h.2, fun p hp => (rise_pos h.2 p hp).1⟩
theorem btP_bytes {b : Bat} (hok : b.ok) (hm : b.may = true) (hl : b.ps.length ≤ 1000000) (rest : List Nat) : btP (b.bytes ++ rest) = (b, ⟨rest, false⟩) := by
  obtain ⟨o1, o2, o3⟩ := hok
  obtain ⟨p1, p2, _, p3⟩ := bat_pos hm
  have e : b.bytes ++ rest = enc (nat0 b.r) ++ (enc (nat0 b.s) ++ (prsBytes b.ps ++ rest)) := by
    unfold Bat.bytes batBytes; simp [encs]
  have c1 := ci_enc o1 p1 (enc (nat0 b.s) ++ (prsBytes b.ps ++ rest)) false
  have c2 := ci_enc o2 p2 (prsBytes b.ps ++ rest) false
  have c4 := rdPrs_enc (fun p hp => ⟨o3 p hp, p3 p hp⟩) hl rest
  unfold btP Cur.two
  rw [e, c1.1, c1.2, c2.1, c2.2, c4]
theorem readBat_bytes {b : Bat} (hok : b.ok) (hm : b.may = true) (hl : b.ps.length ≤ 1000000) : readBat b.bytes = some b := by
  have h := btP_bytes hok hm hl []
  rw [List.append_nil] at h
  unfold readBat
  rw [h, if_pos ⟨rfl, (bat_pos hm).2.2.1⟩]
theorem end_iff {c : Cur} : c.end_ = true ↔ c.b = false ∧ c.l = [] := by
  unfold Cur.end_; simp
/-- Which bytes a batch is read from, said in the reference's way. -/
theorem readBat_ref {l : List Nat} (hl : ∀ d ∈ l, d < 256) (hlen : (btP l).1.ps.length ≤ 1000000) : readBat l = if (btP l).2.b = false ∧ (btP l).1.may = true ∧ (btP l).1.bytes = l then some (btP l).1 else none := by
  unfold readBat
  by_cases h : (btP l).2.end_ = true ∧ riseB (btP l).1.ps = true
  · rw [if_pos h, if_pos]
    obtain ⟨he, hr⟩ := h
    obtain ⟨hb, hn⟩ := end_iff.1 he
    refine ⟨hb, ?_, ?_⟩
    · unfold Bat.may batB
      rw [hr]
      have h1 := (ci_in ⟨l, false⟩).2
      have h2 := (ci_in (Cur.ni ⟨l, false⟩)).2
      unfold btP
      simp only [Bool.and_true, Bool.and_eq_true, decide_eq_true_eq]
      exact ⟨h1, h2⟩
    · have B0 : ∀ d ∈ (⟨l, false⟩ : Cur).l, d < 256 := hl
      have B1 := ni_byte B0
      have B2 := ni_byte B1
      have hb' : (rdPrs (Cur.two ⟨l, false⟩)).2.b = false := hb
      have hn' : (rdPrs (Cur.two ⟨l, false⟩)).2.l = [] := hn
      obtain ⟨b2, e2⟩ := rdPrs_inv B2 hb'
      obtain ⟨b1, e1, _⟩ := ni_inv B1 b2
      obtain ⟨_, e0, _⟩ := ni_inv B0 b1
      unfold Bat.bytes batBytes btP
      simp only [List.map_cons, List.map_nil, encs_cons, encs_nil, List.append_nil]
      conv => rhs; rw [show l = (⟨l, false⟩ : Cur).l from rfl, e0, e1]
      rw [show (Cur.ni (Cur.ni ⟨l, false⟩)).l = prsBytes (rdPrs (Cur.two ⟨l, false⟩)).1 ++ (rdPrs (Cur.two ⟨l, false⟩)).2.l from e2, hn']
      simp [List.append_assoc]
  · rw [if_neg h, if_neg]
    rintro ⟨hb, hm, he⟩
    refine h ⟨?_, (bat_pos hm).2.2.1⟩
    have := btP_bytes (btP_ok l) hm hlen []
    rw [List.append_nil, he] at this
    rw [this]; rfl
theorem readRep_end {l : List Nat} (h : (rpP l).2.end_ = false) (hlen : (rpP l).1.ps.length ≤ 1000000) : readRep l = none := by
  cases hr : readRep l with
  | none => rfl
  | some r =>
    obtain ⟨e, hm, hb, hok⟩ := readRep_inv hr
    subst e
    have := rpP_bytes hok hm hlen []
    rw [List.append_nil, hb] at this
    rw [this] at h; cases h
theorem btP_count (l : List Nat) : (btP l).1.ps.length ≤ l.length + 1 := by
  have h1 := two_len ⟨l, false⟩
  have h3 := rdPrs_count (Cur.two ⟨l, false⟩)
  show (rdPrs (Cur.two ⟨l, false⟩)).1.length ≤ _
  simp only at h1; omega
end Go.Proofs.Ytejijghghbicdaa
