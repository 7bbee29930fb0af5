/- UnitApart: the plant with some data on all media, and a command behind them. -/
import Derived.Test.YtlbbmfmkhmmikaaGreatWk
import Derived.Test.YtlbbmfmkhmmikaaGreatURdA
import Derived.BigRegion
namespace Go.Proofs.YtlbbmfmkhmmikaaGreat
open Go.RowKit
theorem find_conf {s t : ST} (h : t.us.map (·.conf) = s.us.map (·.conf)) (a : Int) : t.find a = s.find a := by
  have e : ∀ l : List UN, (l.findIdx? fun u => decide (u.conf.addr = a)) = (l.map (·.conf)).findIdx? fun c => decide (c.addr = a) := fun l => by
    induction l with
    | nil => rfl
    | cons x l ih => simp [List.findIdx?_cons, ih]
  unfold ST.find
  rw [e, e, h]
theorem act_conf (s : ST) (addr op : Int) (l : List UInt8) : (s.act addr op l).1.us.map (·.conf) = s.us.map (·.conf) := by
  unfold ST.act
  split
  · rfl
  split
  · rfl
  split
  · rfl
  rename_i u hu
  split
  · rfl
  · exact act_us hu op l
theorem UN.cmd_kind (u : UN) (op : Int) (l : List UInt8) : (u.cmd op l).1.dev.kind = u.dev.kind := by
  unfold UN.cmd
  repeat' split
  all_goals first | exact Dev.act_kind _ _ _ | exact Dev.undo_kind _ _
/-- What a command leaves of a unit. -/
theorem act_each {s : ST} {j : Nat} {u : UN} (addr op : Int) (l : List UInt8) (hu : s.us[j]? = some u) :
    ∃ t, (s.act addr op l).1.us[j]? = some t ∧ t.conf = u.conf ∧ t.dev.kind = u.dev.kind ∧ (s.find addr ≠ some j → (t = u ∨ t = u.undo 0) ∧ (s.last ≠ some j → t = u)) := by
  have hsame : ∃ t, s.us[j]? = some t ∧ t.conf = u.conf ∧ t.dev.kind = u.dev.kind ∧ (s.find addr ≠ some j → (t = u ∨ t = u.undo 0) ∧ (s.last ≠ some j → t = u)) := ⟨u, hu, rfl, rfl, fun _ => ⟨Or.inl rfl, fun _ => rfl⟩⟩
  unfold ST.act
  split
  · exact hsame
  rename_i i hi
  split
  · exact hsame
  split
  · exact hsame
  rename_i y hy
  split
  · exact hsame
  have hil := (List.getElem?_eq_some_iff.1 hy).1
  by_cases hij : i = j
  · subst hij
    rw [hy] at hu
    injection hu with hu
    subst hu
    refine ⟨(y.cmd op l).1, by simp [settle_len, hil], UN.cmd_conf _ _ _, UN.cmd_kind _ _ _, fun h => absurd hi h⟩
  · have hg : ((s.settle i).set i (y.cmd op l).1)[j]? = (s.settle i)[j]? := by rw [List.getElem?_set, if_neg hij]
    show ∃ t, ((s.settle i).set i (y.cmd op l).1)[j]? = some t ∧ _
    rw [hg]
    unfold ST.settle
    split
    · rename_i m hm
      split
      · exact hsame
      · rw [List.getElem?_modify, hu]
        by_cases hmj : m = j
        · subst hmj
          exact ⟨u.undo 0, by simp, rfl, Dev.undo_kind _ _, fun _ => ⟨Or.inr rfl, fun h => absurd hm h⟩⟩
        · exact ⟨u, by simp [hmj], rfl, rfl, fun _ => ⟨Or.inl rfl, fun _ => rfl⟩⟩
    · exact hsame
def zc : List UInt8 := List.replicate 80 0
def ap1 : ST := ⟨[mkU cReader (.reader 0 0 0 [zc]), mkU cPunch (.punch 0 []), mkU cPrinter (.printer ⟨0, [], 0⟩), mkU cTape (.tape nmA (T.freshTP [])), mkU cDisk (.disk (D.freshDK nmB 1 1))], none, false⟩
def ap2 : ST := (ap1.act 13 1 [1]).1
def ap3 : ST := (ap2.act 14 1 [193]).1
def ap4 : ST := (ap3.act 384 1 [2]).1
def ap5 : ST := (ap4.act 400 29 [0, 0, 0, 0, 1, 0, 0, 1, 3]).1
theorem ap1_ok : ap1.ok 0 := by
  have h := plant_ok
  refine ⟨fun u hu => ?_, h.len, pw_map h.asc rfl, fun i e => (by cases e), fun i u e _ => ?_⟩
  · rcases List.mem_cons.1 hu with rfl | hu
    · have o := h.us (mkU cReader (.reader 0 0 0 [])) (List.mem_cons_self ..)
      refine ⟨?_, o.kind, o.addr, o.af, o.ti⟩
      show U.RdFit 0 0 0 [zc]
      unfold U.RdFit
      refine ⟨by decide, by decide, by decide, by decide, fun c hc => ?_⟩
      obtain rfl := List.mem_singleton.1 hc
      rfl
    · exact h.us u (List.mem_cons_of_mem _ hu)
  · cases i with
    | zero => injection e with e; subst e; trivial
    | succ i => exact h.idle (i + 1) u e (by simp [plantST])
theorem ap5_ok : ap5.ok 4 := (((ap1_ok.act _ _ _).act _ _ _).act _ _ _).act _ _ _
theorem ap_f (a : Int) : ap5.find a = plantST.find a := find_conf (by unfold ap5 ap4 ap3 ap2; rw [act_conf, act_conf, act_conf, act_conf]; rfl) a
theorem ap_u0 : ap5.us[0]? = some (mkU cReader (.reader 0 0 0 [zc])) := by kernel_rfl
theorem ap_u1 : ap5.us[1]? = some (mkU cPunch (.punch 0 [[1] ++ List.replicate 79 0x40])) := by kernel_rfl
def apP : U.PS := match ap5.us[2]? with
  | some u => (match u.dev with | .printer p => p | _ => ⟨0, [], 0⟩)
  | none => ⟨0, [], 0⟩
def apT : Option (Nat × List T.Blk × Bool) := match ap5.us[3]? with
  | some u => (match u.dev with | .tape _ p => p.last | _ => none)
  | none => none
def apD : D.DK := match ap5.us[4]? with
  | some u => (match u.dev with | .disk d => d | _ => D.freshDK nmB 1 1)
  | none => D.freshDK nmB 1 1
theorem ap_u2 : ∃ p : U.PS, ap5.us[2]? = some (mkU cPrinter (.printer p)) ∧ p.lines.length = 1 := ⟨apP, by kernel_rfl, by kernel_rfl⟩
theorem ap_u3 : ∃ la, ap5.us[3]? = some (mkU cTape (.tape nmA ⟨[⟨[2], false, false⟩], 1, true, 0, la⟩)) := ⟨apT, by kernel_rfl⟩
theorem ap_u4 : ∃ d : D.DK, ap5.us[4]? = some (mkU cDisk (.disk d)) ∧ d.tracks = [[⟨1, [], [3], false⟩]] := ⟨apD, by kernel_rfl, by kernel_rfl⟩
theorem ap_la : ap5.last = some 4 := by kernel_rfl
/-- All that the law asks of the units, behind any command. -/
structure ApartOk (s : ST) (ad : Int) : Prop where
  ok : s.ok 5
  r : ∃ (u : UN) (se tk st : Nat) (cs : List (List UInt8)), s.find 12 = some 0 ∧ s.us[0]? = some u ∧ u.dev = .reader se tk st cs ∧ (ad ≠ 12 → tk = 0 ∧ cs.length = 1)
  p : ∃ (u : UN) (se : Nat) (cs : List (List UInt8)), s.find 13 = some 1 ∧ s.us[1]? = some u ∧ u.dev = .punch se cs ∧ (ad ≠ 13 → cs.length = 1)
  w : ∃ (u : UN) (p : U.PS), s.find 14 = some 2 ∧ s.us[2]? = some u ∧ u.dev = .printer p ∧ (ad ≠ 14 → p.lines.length = 1)
  t : ∃ (u : UN) (n : ByteArray) (p : T.TP), s.find 384 = some 3 ∧ s.us[3]? = some u ∧ u.dev = .tape n p ∧ (ad ≠ 384 → p.bs = [⟨[2], false, false⟩])
  d : ∃ (u : UN) (d : D.DK), s.find 400 = some 4 ∧ s.us[4]? = some u ∧ u.dev = .disk d ∧ (ad ≠ 400 → d.tracks = [[⟨1, [], [3], false⟩]])
theorem kind_1 {d : Dev} (h : d.kind = 1) : ∃ se tk st cs, d = .reader se tk st cs := by cases d <;> first | exact ⟨_, _, _, _, rfl⟩ | (simp [Dev.kind] at h)
theorem kind_2 {d : Dev} (h : d.kind = 2) : ∃ se cs, d = .punch se cs := by cases d <;> first | exact ⟨_, _, rfl⟩ | (simp [Dev.kind] at h)
theorem kind_3 {d : Dev} (h : d.kind = 3) : ∃ p, d = .printer p := by cases d <;> first | exact ⟨_, rfl⟩ | (simp [Dev.kind] at h)
theorem kind_4 {d : Dev} (h : d.kind = 4) : ∃ n p, d = .tape n p := by cases d <;> first | exact ⟨_, _, rfl⟩ | (simp [Dev.kind] at h)
theorem kind_5 {d : Dev} (h : d.kind = 5) : ∃ p, d = .disk p := by cases d <;> first | exact ⟨_, rfl⟩ | (simp [Dev.kind] at h)
theorem dk_undo0 (d : D.DK) : (D.dkUndo d 0).1.tracks = d.tracks := by
  unfold D.dkUndo
  rw [if_neg (by decide)]
  split
  · rfl
  · rfl
theorem apart_find {ad : Int} {a : Int} {i : Nat} (h : plantST.find a = some i) (hne : ad ≠ a) : ap5.find ad ≠ some i := fun e => by
  obtain ⟨u, hu, ha⟩ := find_get e
  rw [← ap_f] at h
  obtain ⟨u2, hu2, ha2⟩ := find_get h
  rw [hu] at hu2
  injection hu2 with hu2
  subst hu2
  exact hne (ha ▸ ha2)
theorem apart_ok (ad op : Int) (l : List UInt8) : ApartOk (ap5.act ad op l).1 ad := by
  have hf : ∀ a, (ap5.act ad op l).1.find a = plantST.find a := fun a => (find_conf (act_conf _ _ _ _) a).trans (ap_f a)
  refine ⟨ap5_ok.act _ _ _, ?_, ?_, ?_, ?_, ?_⟩
  · obtain ⟨t, ht, _, hk, ho⟩ := act_each ad op l ap_u0
    obtain ⟨se, tk, st, cs, hd⟩ := kind_1 hk
    refine ⟨t, se, tk, st, cs, (hf 12).trans rfl, ht, hd, fun hne => ?_⟩
    have := (ho (apart_find rfl hne)).2 (by rw [ap_la]; decide)
    subst this
    injection hd with h1 h2 h3 h4
    subst h2; subst h4
    exact ⟨rfl, rfl⟩
  · obtain ⟨t, ht, _, hk, ho⟩ := act_each ad op l ap_u1
    obtain ⟨se, cs, hd⟩ := kind_2 hk
    refine ⟨t, se, cs, (hf 13).trans rfl, ht, hd, fun hne => ?_⟩
    have := (ho (apart_find rfl hne)).2 (by rw [ap_la]; decide)
    subst this
    injection hd with h1 h2
    subst h2
    rfl
  · obtain ⟨p0, h0, hl⟩ := ap_u2
    obtain ⟨t, ht, _, hk, ho⟩ := act_each ad op l h0
    obtain ⟨p, hd⟩ := kind_3 hk
    refine ⟨t, p, (hf 14).trans rfl, ht, hd, fun hne => ?_⟩
    have := (ho (apart_find rfl hne)).2 (by rw [ap_la]; decide)
    subst this
    injection hd with h1
    subst h1
    exact hl
  · obtain ⟨la, h0⟩ := ap_u3
    obtain ⟨t, ht, _, hk, ho⟩ := act_each ad op l h0
    obtain ⟨n, p, hd⟩ := kind_4 hk
    refine ⟨t, n, p, (hf 384).trans rfl, ht, hd, fun hne => ?_⟩
    have := (ho (apart_find rfl hne)).2 (by rw [ap_la]; decide)
    subst this
    injection hd with h1 h2
    subst h2
    rfl
  · obtain ⟨d0, h0, hl⟩ := ap_u4
    obtain ⟨t, ht, _, hk, ho⟩ := act_each ad op l h0
    obtain ⟨d, hd⟩ := kind_5 hk
    refine ⟨t, d, (hf 400).trans rfl, ht, hd, fun hne => ?_⟩
    rcases (ho (apart_find rfl hne)).1 with e | e
    · subst e
      injection hd with h1
      subst h1
      exact hl
    · subst e
      injection hd with h1
      subst h1
      exact (dk_undo0 d0).trans hl
end Go.Proofs.YtlbbmfmkhmmikaaGreat
